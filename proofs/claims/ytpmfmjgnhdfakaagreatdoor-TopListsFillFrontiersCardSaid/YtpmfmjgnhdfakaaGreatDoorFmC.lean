/-
  Rows of any number of cells, inserted into and deleted from: what is of no program.
-/
import Derived.Test.YtpmfmjgnhdfakaaGreatDoorLwSeal
import Derived.Lib.AppendZerosOnto
import Derived.Lib.Overlaps
import Derived.Lib.SliceRun
import Derived.Laws.IdiomCopy
import Derived.Laws.Externs
import Derived.Test.YtpmfmjgnhdfakaaGreatDoorProg
import Derived.Test.YtpmfmjgnhdfakaaGreatDoorLwCard
import Derived.Lib.Walk
import Derived.Shelf.RegionOpenPlain
import Derived.StillTailTactics
import Derived.Deep.RegionLaw
import Derived.Test.YtpmfmjgnhdfakaaGreatDoorFmB
import Derived.Test.YtpmfmjgnhdfakaaGreatDoorFnD
import Derived.Test.YtpmfmjgnhdfakaaGreatDoorFnT
set_option linter.unusedSimpArgs false
set_option linter.unusedVariables false
namespace Go.Lw
open Go.RowKit

theorem run_copy_K {P : Program} (w : World) (dT sT ty elem : TypeId) (sz b o dLen dCap : Nat) (a : Addr) (sLen sCap : Nat) (cs : List Value)
    (hu : P.underlying dT = some (.slice elem)) (hs : (P.info? elem).map (·.size) = some sz) (hn : cs.length = Nat.min sLen dLen * sz)
    (hsrc : ∀ j v, cs[j]? = some v → w.cell? (a.add j) = some v) (hc : ∀ j, j < cs.length → (w.cell? ⟨b, o + j, none⟩).isSome = true) (hf : ∀ j, j < cs.length → w.frozen? ⟨b, o + j, none⟩ = false) (h1 : ∀ v ∈ cs, v.oneCell' = true) :
    (Builtin.copy_ #[dT, sT] ty #[.slice (some ⟨b, o, none⟩) dLen dCap, .slice (some a) sLen sCap]).run P w = .ok (goInt (Nat.min sLen dLen)) (w.setCells b o cs) := by
  have hl := run_loadCells_list (P := P) w a cs hsrc
  have hst := run_storeCells_cells (P := P) b o cs 0 w (by simpa using hc) (by simpa using hf) h1
  cases hq : P.info? elem with
  | none => simp [hq] at hs
  | some i =>
    have hi : i.size = sz := by simpa [hq] using hs
    simp [Builtin.copy_, run_underlying hu, Builtin.lenOf, Builtin.firstCells, sizeOf, typeInfo, hq, hi, ← hn, hl, hst]
theorem heap_setCells (b : Nat) (t : TypeId) (fz : Nat × Nat) : ∀ (vs : List Value) (o : Nat) (cur : Array Value) (w : World), w.heap[b]? = some (.cells cur t fz) → o + vs.length ≤ cur.size →
    ∃ cur', (w.setCells b o vs).heap[b]? = some (.cells cur' t fz) ∧ cur'.size = cur.size ∧ ∀ k, cur'[k]? = if o ≤ k ∧ k < o + vs.length then vs[k - o]? else cur[k]?
  | [], o, cur, w, hg, _ => ⟨cur, hg, rfl, fun k => by simp; omega⟩
  | v :: vs, o, cur, w, hg, hl => by
    simp only [List.length_cons] at hl
    have hg' : (w.setCell ⟨b, o, none⟩ v).heap[b]? = some (.cells (cur.setIfInBounds o v) t fz) := by
      simp [World.setCell, Array.getElem?_modify, hg]
    obtain ⟨cur', h2, h3, h4⟩ := heap_setCells b t fz vs (o + 1) (cur.setIfInBounds o v) (w.setCell ⟨b, o, none⟩ v) hg' (by simp; omega)
    refine ⟨cur', h2, by simpa using h3, fun k => ?_⟩
    rw [h4 k]
    simp only [List.length_cons]
    by_cases hk : k = o
    · subst hk
      rw [if_neg (by omega), if_pos (by omega), Array.getElem?_setIfInBounds]
      simp
      omega
    · by_cases hk2 : o + 1 ≤ k ∧ k < o + 1 + vs.length
      · rw [if_pos hk2, if_pos (by omega)]
        obtain ⟨j, rfl⟩ : ∃ j, k = o + 1 + j := ⟨k - (o + 1), by omega⟩
        rw [show o + 1 + j - (o + 1) = j by omega, show o + 1 + j - o = j + 1 by omega]
        rfl
      · rw [if_neg hk2, if_neg (by omega), Array.getElem?_setIfInBounds]
        simp
        omega
theorem setCells_frame (b : Nat) : ∀ (vs : List Value) (o : Nat) (w : World), (w.setCells b o vs).os = w.os ∧ (w.setCells b o vs).tape = w.tape ∧ (w.setCells b o vs).output = w.output ∧ (w.setCells b o vs).heap.size = w.heap.size ∧ ∀ k, k ≠ b → (w.setCells b o vs).heap[k]? = w.heap[k]?
  | [], o, w => ⟨rfl, rfl, rfl, rfl, fun _ _ => rfl⟩
  | v :: vs, o, w => by
    obtain ⟨h1, h2, h3, h4, h5⟩ := setCells_frame b vs (o + 1) (w.setCell ⟨b, o, none⟩ v)
    refine ⟨h1, h2, h3, by rw [World.setCells, h4]; simp [World.setCell], fun k hk => ?_⟩
    rw [World.setCells, h5 k hk]
    simp [World.setCell, Array.getElem?_modify, Ne.symm hk]
theorem isSome_setCellsK (b : Nat) (vs : List Value) (o : Nat) (w : World) (h : ∀ j, j < vs.length → (w.cell? ⟨b, o + j, none⟩).isSome = true) (k : Nat) (hk : (w.cell? ⟨b, k, none⟩).isSome = true) : ((w.setCells b o vs).cell? ⟨b, k, none⟩).isSome = true := by
  by_cases hin : o ≤ k ∧ k < o + vs.length
  · have := World.cell?_setCells_in b vs o w h (k - o) (by omega)
    rw [show o + (k - o) = k by omega] at this
    rw [this]; rfl
  · rw [World.cell?_setCells_out b vs o w ⟨b, k, none⟩ (fun _ _ => by show k < o ∨ o + vs.length ≤ k; omega)]
    exact hk
/-! The operation in the walk, where its run is known. -/
section
variable {P : Program}
theorem wp_copyK (w : World) {o : Oper} {a : Act} {K : Act → World → Prop} {Q : Exit → Act → World → Prop} (d s : Operand) (t t' : TypeId)
    (ho : o.op = .call { callee := .builtin .copy, args := #[d, s], argTypes := #[t, t'] }) (v u : Value) (hd : a.eval d = v) (hs : a.eval s = u) {v' : Value} {w' : World}
    (hr : (Builtin.copy_ #[t, t'] o.type #[v, u]).run P w = .ok v' w') (h : K (a.put o.dst v') w') : o.wp P a w K Q := by
  unfold Oper.wp execOp
  simp only [ho, resolve, invoke, builtin, Sem.run_bind, Sem.run_pure, Result.andThen_ok, List.map_toArray, List.map_cons, List.map_nil, hd, hs, hr]
  exact h
theorem wpList_copyK (w : World) {ops : Array Oper} {rest : List Oper} {o : Oper} {a : Act} {Q : Exit → Act → World → Prop} (hgd : o.guard = none) (d s : Operand) (t t' : TypeId)
    (ho : o.op = .call { callee := .builtin .copy, args := #[d, s], argTypes := #[t, t'] }) (v u : Value) (hd : a.eval d = v) (hs : a.eval s = u) {v' : Value} {w' : World}
    (hr : (Builtin.copy_ #[t, t'] o.type #[v, u]).run P w = .ok v' w') (h : wpList P ops Q rest (a.put o.dst v') w') : wpList P ops Q (o :: rest) a w :=
  wpList_plain hgd fun _ hK => wp_copyK w d s t t' ho v u hd hs hr (hK _ _ h)
theorem step_copyK {ops : Array Oper} {o : Oper} {a : Act} {w : World} {K : Act → World → Prop} {Q : Exit → Act → World → Prop} {E : Prop}
    (hg : o.guard = none) (d x : Operand) (dT sT : TypeId) (hop : o.op = Op.call { callee := Callee.builtin Builtin.copy, args := #[d, x], argTypes := #[dT, sT] })
    (v u : Value) (hd : a.eval d = v) (hx : a.eval x = u) {v' : Value} {w' : World} (hr : (Builtin.copy_ #[dT, sT] o.type #[v, u]).run P w = .ok v' w') (hK : K (a.put o.dst v') w') :
    if Region.wanted o (yielded ops a.tmps) = true then Oper.wp P o a w K Q else E := by
  have hw : Region.wanted o (yielded ops a.tmps) = true := by simp [Region.wanted, hg]
  rw [if_pos hw]
  exact wp_copyK w d x dT sT hop v u hd hx hr hK
end
/-! What a call leaves behind that handed back its row, written or grown. -/
theorem left_row {ok : Nat → Prop} {h : Nat → Hd} {w w' : World} {e sz : Nat} {gr : Bool × List D} {es' : List (List D)} {objs : List (Nat × O)} {o : O} {b' cap' n : Nat} {cur' : Array Value} (hok : ∀ k, ok k → k < w.heap.size) (hlies : Lies w ok h objs) (hl : look 50001 objs = some o)
    (hos : w'.os = w.os) (htape : w'.tape = w.tape) (hout : w'.output = w.output) (hsize : w.heap.size ≤ w'.heap.size)
    (hblk : ∀ k, k < w.heap.size → k ≠ b' → w'.heap[k]? = w.heap[k]?) (hb' : (h 50001).blk = some b' ∨ (w.heap.size ≤ b' ∧ b' < w'.heap.size))
    (hh : w'.heap[b']? = some (.cells cur' e (0, 0))) (hsz : cur'.size = cap' * sz) (hcap : cap' ≤ maxLen) (hle : es'.length ≤ cap') (hn : n ≤ cap') (hrd : OwnRd w ok sz es' cur') :
    Left objs [(50001, .own e sz gr es')] (.os 50001 n) ok h w ok (upd h 50001 ⟨some b', cap', sz⟩) w' (.slice (some ⟨b', 0, none⟩) n cap') := by
  have hnb : ∀ b, ok b → b ≠ b' := fun b hb e => by
    subst e
    rcases hb' with h1 | h1
    · exact (hlies.blk _ _ b hl h1).2 hb
    · have := hok b hb; omega
  have hokb : ∀ b, ok b → w'.heap[b]? = w.heap[b]? := fun b hb => hblk b (hok b hb) (hnb b hb)
  have one : ∀ id o1, look id [(50001, O.own e sz gr es')] = some o1 → id = 50001 ∧ o1 = .own e sz gr es' := fun id o1 hx => by
    simp only [look] at hx
    split at hx
    · rename_i e1; cases hx; exact ⟨e1.symm, rfl⟩
    · cases hx
  refine ⟨hos, htape, hout, hsize, fun k hk hnl => hblk k hk fun e1 => ?_, fun k hk => hk, fun k hk => ⟨by have := hok k hk; omega, .inl hk⟩, ⟨fun id o1 hx => ?_, fun id o1 b hx hb => ?_, fun id id' o1 o2 b hx hx' hne => ?_⟩, fun id o1 b hx hb => ?_, fun id hid => upd_ne h 50001 _ id (by omega), ?_⟩
  · subst e1
    rcases hb' with h1 | h1
    · exact hnl ⟨50001, o, hl, h1⟩
    · omega
  · obtain ⟨rfl, rfl⟩ := one id o1 hx
    refine ⟨by rw [upd_same], by rw [upd_same]; exact hcap, .inr ⟨b', cur', (0, 0), by rw [upd_same], hh, fun o _ => by simp, fun _ => rfl, by rw [upd_same]; exact hle, by rw [upd_same]; exact hsz, ?_⟩⟩
    exact hrd.mono hokb fun _ hb => hb
  · obtain ⟨rfl, rfl⟩ := one id o1 hx
    rw [upd_same] at hb
    obtain rfl := Option.some.inj hb
    rcases hb' with h1 | h1
    · obtain ⟨h2, h3⟩ := hlies.blk _ _ _ hl h1
      exact ⟨by omega, h3⟩
    · exact ⟨h1.2, fun hk => by have := hok _ hk; omega⟩
  · obtain ⟨rfl, _⟩ := one id o1 hx
    obtain ⟨rfl, _⟩ := one id' o2 hx'
    exact absurd rfl hne
  · obtain ⟨rfl, rfl⟩ := one id o1 hx
    rw [upd_same] at hb
    obtain rfl := Option.some.inj hb
    rcases hb' with h1 | h1
    · exact .inr ⟨o, hl, h1⟩
    · exact .inl h1.1
  · have := RdV.os (w := w') (ok := ok) (h := upd h 50001 ⟨some b', cap', sz⟩) 50001 n (by rw [upd_same]; exact hn)
    rw [upd_same] at this
    exact this
/-- The cells of a row that lies there. -/
theorem own_cells {w : World} {ok : Nat → Prop} {sz : Nat} {es : List (List D)} {cur : Array Value} (hrd : OwnRd w ok sz es cur) (hle : es.length * sz ≤ cur.size) : RowsRd w ok sz es (cur.toList.take (es.length * sz)) := by
  have := OwnRd.rows hrd (Nat.le_refl es.length) hle
  rwa [List.take_length] at this
theorem rows_take {w : World} {ok : Nat → Prop} {sz : Nat} {es : List (List D)} {cs : List Value} (hrd : RowsRd w ok sz es cs) (i : Nat) (hi : i ≤ es.length) : RowsRd w ok sz (es.take i) (cs.take (i * sz)) := by
  refine ⟨?_, fun j l hj => ?_⟩
  · have : i * sz ≤ es.length * sz := Nat.mul_le_mul_right _ hi
    rw [List.length_take, List.length_take, hrd.1, Nat.min_eq_left hi, Nat.min_eq_left this]
  · rw [List.getElem?_take] at hj
    split at hj
    · rename_i hji
      obtain ⟨h1, h2⟩ := hrd.2 j l hj
      refine ⟨h1, fun k d hk => ?_⟩
      obtain ⟨v, h3, h4⟩ := h2 k d hk
      have hk' : k < sz := by rw [← h1]; exact (List.getElem?_eq_some_iff.1 hk).1
      have : (j + 1) * sz ≤ i * sz := Nat.mul_le_mul_right _ hji
      rw [Nat.add_mul] at this
      exact ⟨v, by rw [List.getElem?_take, if_pos (by omega)]; exact h3, h4⟩
    · cases hj
theorem rows_drop {w : World} {ok : Nat → Prop} {sz : Nat} {es : List (List D)} {cs : List Value} (hrd : RowsRd w ok sz es cs) (i : Nat) : RowsRd w ok sz (es.drop i) (cs.drop (i * sz)) := by
  refine ⟨?_, fun j l hj => ?_⟩
  · rw [List.length_drop, List.length_drop, hrd.1, Nat.sub_mul]
  · rw [List.getElem?_drop] at hj
    obtain ⟨h1, h2⟩ := hrd.2 _ l hj
    refine ⟨h1, fun k d hk => ?_⟩
    obtain ⟨v, h3, h4⟩ := h2 k d hk
    exact ⟨v, by rw [List.getElem?_drop, ← h3, Nat.add_mul, Nat.add_assoc], h4⟩
theorem rows_one {w : World} {ok : Nat → Prop} {sz : Nat} {es : List (List D)} {cs : List Value} (hrd : RowsRd w ok sz es cs) (hr : rowsOk sz es) (h0 : 0 < sz) : ∀ u ∈ cs, u.oneCell' = true := by
  intro u hu
  obtain ⟨q, hq⟩ := List.mem_iff_getElem?.1 hu
  have hql : q < es.length * sz := by rw [← hrd.1]; exact (List.getElem?_eq_some_iff.1 hq).1
  have hi : q / sz < es.length := Nat.div_lt_of_lt_mul (by rw [Nat.mul_comm]; exact hql)
  have hm := hr _ (List.getElem_mem hi)
  have hk : q % sz < (es[q / sz]).length := by rw [hm.1]; exact Nat.mod_lt _ h0
  obtain ⟨_, h2⟩ := hrd.2 (q / sz) _ (List.getElem?_eq_getElem hi)
  obtain ⟨v, h3, h4⟩ := h2 (q % sz) _ (List.getElem?_eq_getElem hk)
  rw [Nat.div_add_mod', hq] at h3
  cases h3
  exact oneV_sound (w := w) (ok := ok) (h := fun _ => ⟨none, 0, 0⟩) (List.all_eq_true.1 hm.2 _ (List.getElem_mem hk)) (.d _ _ h4)
theorem ins_rows {w : World} {ok : Nat → Prop} {sz i : Nat} {es : List (List D)} {x : List D} {cs vs : List Value} (hrd : RowsRd w ok sz es cs) (hx : RowsRd w ok sz [x] vs) (hi : i ≤ es.length) : RowsRd w ok sz (es.take i ++ x :: es.drop i) (cs.take (i * sz) ++ vs ++ cs.drop (i * sz)) := by
  have := ((rows_take hrd i hi).append hx).append (rows_drop hrd i)
  simpa using this
end Go.Lw
/-
  slices.Insert of one element at []api.Wanted: its four roads, and the contract.
-/
set_option linter.unusedSimpArgs false
set_option linter.unusedVariables false
namespace Go.Proofs.YtpmfmjgnhdfakaaGreatDoor
open Go.Lw Go.RowKit Go.Shelf
set_option maxHeartbeats 4000000
set_option maxRecDepth 100000

theorem insW_info : ∃ i0 z, Tryz.prog.info? 48 = some i0 ∧ i0.zero = some z ∧ i0.size = 3 ∧ i0.bytes = 32 ∧ z.cells.size = 3 := by
  have h : (Tryz.prog.info? 48).map (fun i => (i.size, i.bytes, i.zero.map fun z => z.cells.size)) = some (3, 32, some 3) := by kernel_rfl
  obtain ⟨i0, h1, h2⟩ := Option.map_eq_some_iff.1 h
  simp only [Prod.mk.injEq] at h2
  obtain ⟨h3, h4, h5⟩ := h2
  obtain ⟨z, h6, h7⟩ := Option.map_eq_some_iff.1 h5
  exact ⟨i0, z, h1, h6, h3, h4, h7⟩
theorem insW_shift (b n c i vb vc : Nat) (cs vs : List Value) (w : World) (hi : i < n) (hroom : n + 1 ≤ c) (hc63 : c ≤ 9223372036854775807) (hvb : vb ≠ b)
    (hcl : cs.length = n * 3) (hvl : vs.length = 3)
    (hcs : ∀ j v, cs[j]? = some v → w.cell? ⟨b, j, none⟩ = some v) (hsp : ∀ j, j < (n + 1) * 3 → (w.cell? ⟨b, j, none⟩).isSome = true) (hfz : ∀ j, j < (n + 1) * 3 → w.frozen? ⟨b, j, none⟩ = false)
    (hvs : ∀ j v, vs[j]? = some v → w.cell? ⟨vb, j, none⟩ = some v) (h1c : ∀ v ∈ cs, v.oneCell' = true) (h1v : ∀ v ∈ vs, v.oneCell' = true)
    (tA tB : TypeId) (kA kB : Nat) (hsa : w.shape? vb = some (tA, kA)) (hsb : w.shape? b = some (tB, kB)) (hkB : kB ≠ 0) (hfa : w.frozen? ⟨vb, 0, none⟩ = false) (hfe : w.frozen? ⟨vb, kA, none⟩ = false) :
    Calls Tryz.prog 35 #[.slice (some ⟨b, 0, none⟩) n c, .int .i64 i, .slice (some ⟨vb, 0, none⟩) 1 vc] w fun e w' =>
      e = .returned (.slice (some ⟨b, 0, none⟩) (n + 1) c) ∧ w' = (w.drew.setCells b ((i + 1) * 3) (cs.drop (i * 3))).setCells b (i * 3) vs := by
  have mixed : Tryz.prog.follows .mixedOrders = true := by kernel_rfl
  have hz2 : ¬ ((i : Int) = (n : Int)) := by omega
  have hsz : (Tryz.prog.info? 48).map (·.size) = some 3 := by kernel_rfl
  have hzs : ∀ w, (Go.sizeOf 48).run Tryz.prog w = .ok 3 w := fun w => Lw.run_sizeOf (show eSz _ _ = some 3 from hsz) w
  have hov : ∀ o lb cb, (callFunc 76 #[.slice (some ⟨vb, 0, none⟩) 1 vc, .slice (some ⟨b, o, none⟩) lb cb]).run Tryz.prog w = .ok (.value (.bool false)) w := fun o lb cb => by
    rw [run_callFunc_extern Tryz.func76 (by kernel_rfl) (by kernel_rfl) (by kernel_rfl) (e := Extern.SlicesOverlaps.overlaps #[36, 36] #[4]) (by kernel_rfl),
      Lib.run_overlaps_apart w 36 4 48 Tryz.underlying36 3 hzs ⟨vb, 0, none⟩ ⟨b, o, none⟩ 1 vc lb cb hvb tA tB kA kB hsa hsb hkB hfa hfe]
    rfl
  have hdl : (cs.drop (i * 3)).length = (n - i) * 3 := by first | (rw [List.length_drop, hcl]; omega) | (rw [List.length_drop, hcl])
  have hw1 : IntKind.i64.wrap ((i : Int) + 1) = (i : Int) + 1 := by rw [IntKind.wrap_i64]; omega
  have hb1 : (0 : Int) ≤ (i : Int) + 1 := by omega
  have hin : i ≤ n := by omega
  have htn : ((i : Int) + 1).toNat = i + 1 := by omega
  have hb2 : ¬ (c = i + 1) := by omega
  have hb3 : (i : Int) ≤ (n : Int) + 1 := by omega
  have hb4 : ¬ (c = i) := by omega
  have hcp1 : ∀ ty dc sc, (Builtin.copy_ #[36, 36] ty #[.slice (some ⟨b, (i + 1) * 3, none⟩) (n - i) dc, .slice (some ⟨b, i * 3, none⟩) (n + 1 - i) sc]).run Tryz.prog w.drew = .ok (goInt ((n - i : Nat) : Int)) (w.drew.setCells b ((i + 1) * 3) (cs.drop (i * 3))) := fun ty dc sc => by
    have hm : Nat.min (n + 1 - i) (n - i) = n - i := by simp only [Nat.min_def]; split <;> omega
    have := run_copy_K (P := Tryz.prog) w.drew 36 36 ty 48 3 b ((i + 1) * 3) (n - i) dc ⟨b, i * 3, none⟩ (n + 1 - i) sc (cs.drop (i * 3)) Tryz.underlying36 hsz (by rw [hm, hdl]; try omega)
      (fun j v hj => by rw [addr_add]; exact hcs (i * 3 + j) v (by rwa [List.getElem?_drop] at hj))
      (fun j hj => by exact hsp _ (by omega)) (fun j hj => by exact hfz _ (by omega)) (fun v hv => h1c v (List.mem_of_mem_drop hv))
    rw [hm] at this
    exact this
  obtain ⟨W1, hW1⟩ : ∃ W1, W1 = w.drew.setCells b ((i + 1) * 3) (cs.drop (i * 3)) := ⟨_, rfl⟩
  have hsp1 : ∀ k, k < (n + 1) * 3 → (W1.cell? ⟨b, k, none⟩).isSome = true := fun k hk => by
    rw [hW1]
    exact isSome_setCellsK b (cs.drop (i * 3)) ((i + 1) * 3) w.drew (fun j hj => hsp _ (by omega)) k (hsp k hk)
  have hcp2 : ∀ (W : World), (∀ x, W.cell? x = W1.cell? x) → (∀ x, W.frozen? x = W1.frozen? x) → ∀ ty dc, (Builtin.copy_ #[36, 36] ty #[.slice (some ⟨b, i * 3, none⟩) (n + 1 - i) dc, .slice (some ⟨vb, 0, none⟩) 1 vc]).run Tryz.prog W = .ok (goInt 1) (W.setCells b (i * 3) vs) := fun W hWc hWf ty dc => by
    have hm : Nat.min 1 (n + 1 - i) = 1 := by simp only [Nat.min_def]; split <;> omega
    have := run_copy_K (P := Tryz.prog) W 36 36 ty 48 3 b (i * 3) (n + 1 - i) dc ⟨vb, 0, none⟩ 1 vc vs Tryz.underlying36 hsz (by rw [hm, hvl]; try omega)
      (fun j v hj => by
        rw [addr_add, Nat.zero_add, hWc, hW1, World.cell?_setCells_out b _ _ _ _ (fun h _ => absurd h hvb)]
        exact hvs j v hj)
      (fun j hj => by rw [hWc]; exact hsp1 _ (by omega)) (fun j hj => by rw [hWf, hW1, World.frozen?_setCells]; exact hfz _ (by omega)) h1v
    rw [hm] at this
    exact this
  rw [← hW1] at hcp1
  go_enter Tryz.func35, Tryz.ntmps35
  go_wp2_with (simp only [hov])
  go_region_law_o (refine step_copyK rfl _ _ 36 36 rfl _ _ (by simp [Act.eval, Act.put]) (by simp [Act.eval, Act.put]) (hcp1 _ _ _) ?_)
  go_wp2_with (at_builtin; refine wpList_copyK _ rfl _ _ 36 36 rfl _ _ rfl rfl (hcp2 _ (fun _ => rfl) (fun _ => rfl) _ _) ?_)
  go_ret
  first | exact ⟨rfl, rfl⟩ | exact ⟨rfl, by rw [hW1]⟩
theorem insW_end_room (b n c vb vc : Nat) (vs : List Value) (w : World) (hroom : n + 1 ≤ c) (hc63 : c ≤ 9223372036854775807)
    (hvl : vs.length = 3) (hsp : ∀ j, j < 3 → (w.cell? ⟨b, n * 3 + j, none⟩).isSome = true) (hfz : ∀ j, j < 3 → w.frozen? ⟨b, n * 3 + j, none⟩ = false)
    (hvs : ∀ j v, vs[j]? = some v → w.cell? ⟨vb, j, none⟩ = some v) (h1v : ∀ v ∈ vs, v.oneCell' = true) :
    Calls Tryz.prog 35 #[.slice (some ⟨b, 0, none⟩) n c, .int .i64 n, .slice (some ⟨vb, 0, none⟩) 1 vc] w fun e w' =>
      e = .returned (.slice (some ⟨b, 0, none⟩) (n + 1) c) ∧ w' = w.setCells b (n * 3) vs := by
  obtain ⟨i0, z, hi0, hz0, hzs, hzb, hzc⟩ := insW_info
  have hrun : ∀ ty, (Builtin.append_ #[36, 36] ty #[.slice (some ⟨b, 0, none⟩) n c, .slice (some ⟨vb, 0, none⟩) 1 vc]).run Tryz.prog w = .ok (.slice (some ⟨b, 0, none⟩) (n + 1) c) (w.setCells b (n * 3) vs) := fun ty => by
    have := run_append_room_cells (P := Tryz.prog) w 36 ty 48 i0 Tryz.underlying36 hi0 b 0 n c ⟨vb, 0, none⟩ 1 vc vs (by rw [hvl, hzs]) (fun j u hj => by rw [addr_add, Nat.zero_add]; exact hvs j u hj) h1v hroom
      (fun j hj => by rw [hzs, Nat.zero_add]; first | exact hsp j (by omega) | (rw [Nat.mul_one]; exact hsp j (by omega))) (fun j hj => by rw [hzs, Nat.zero_add]; first | exact hfz j (by omega) | (rw [Nat.mul_one]; exact hfz j (by omega)))
    rw [hzs, Nat.zero_add] at this
    first | exact this | (rw [Nat.mul_one] at this; exact this)
  go_enter Tryz.func35, Tryz.ntmps35
  go_wp2_with (at_builtin; refine Lib.wpList_append_run _ rfl _ _ _ _ rfl _ _ rfl rfl _ _ (hrun _) ?_)
  all_goals (go_ret; exact ⟨rfl, rfl⟩)
theorem insW_end_grow (base : Option Nat) (n c vb vc : Nat) (cs vs : List Value) (w : World) (hnc : n ≤ c) (hroom : c < n + 1) (hbig : (n + 1) * 32 ≤ 140737488355328)
    (hcl : cs.length = n * 3) (hvl : vs.length = 3) (hnil : base = none → n = 0)
    (hcs : ∀ b, base = some b → ∀ j v, cs[j]? = some v → w.cell? ⟨b, j, none⟩ = some v)
    (hvs : ∀ j v, vs[j]? = some v → w.cell? ⟨vb, j, none⟩ = some v) (h1v : ∀ v ∈ vs, v.oneCell' = true) :
    Calls Tryz.prog 35 #[.slice (base.map fun b => ⟨b, 0, none⟩) n c, .int .i64 n, .slice (some ⟨vb, 0, none⟩) 1 vc] w fun e w' =>
      e = .returned (.slice (some ⟨w.heap.size, 0, none⟩) (n + 1) (grownCap w (n + 1) c 48)) ∧
      ∃ zc : Array Value, zc.size = 3 ∧ w' = w.drew.alloc (.cells ((cs ++ vs).toArray ++ Builtin.zeroCells zc (grownCap w (n + 1) c 48 - (n + 1))) 48) := by
  obtain ⟨i0, z, hi0, hz0, hzs, hzb, hzc⟩ := insW_info
  have hsrc : Src Tryz.prog i0.size 36 (.slice (some ⟨vb, 0, none⟩) 1 vc) 1 vs w := by
    rw [hzs]
    exact Src.ofSlice w Tryz.underlying36 ⟨vb, 0, none⟩ 1 vc vs (by omega) (fun j u hj => by rw [addr_add, Nat.zero_add]; exact hvs j u hj) h1v
  have hold : (Builtin.firstCells i0.size n (.slice (base.map fun b => ⟨b, 0, none⟩) n c)).run Tryz.prog w.drew = .ok cs.toArray w.drew := by
    rw [hzs]
    cases base with
    | none =>
      have h0 := hnil rfl
      subst h0
      rw [List.length_eq_zero_iff.1 (by omega : cs.length = 0)]
      exact run_firstCells_none w.drew 3 0 0 c
    | some b => exact run_firstCells_some w.drew 3 n ⟨b, 0, none⟩ n c cs (by omega) (fun j v hj => by rw [addr_add, Nat.zero_add]; exact hcs b rfl j v hj)
  have hrun : ∀ ty, (Builtin.append_ #[36, 36] ty #[.slice (base.map fun b => ⟨b, 0, none⟩) n c, .slice (some ⟨vb, 0, none⟩) 1 vc]).run Tryz.prog w = _ := fun ty =>
    run_append_grow_src w 36 36 ty 48 i0 z Tryz.underlying36 hi0 hz0 (base.map fun b => ⟨b, 0, none⟩) n c cs hold _ 1 vs hsrc hroom (by omega) (by rw [hzb]; exact growslice_fits hroom hbig)
  generalize z.cells = zc at hrun hzc
  clear hz0
  go_enter Tryz.func35, Tryz.ntmps35
  cases base with
  | none =>
    have h0 := hnil rfl
    subst h0
    go_wp2_with (at_builtin; refine Lib.wpList_append_run _ rfl _ _ _ _ rfl _ _ rfl rfl _ _ (hrun _) ?_)
    all_goals (go_ret; exact ⟨rfl, zc, hzc, rfl⟩)
  | some a =>
    go_wp2_with (at_builtin; refine Lib.wpList_append_run _ rfl _ _ _ _ rfl _ _ rfl rfl _ _ (hrun _) ?_)
    all_goals (go_ret; exact ⟨rfl, zc, hzc, rfl⟩)
theorem insW_grow (b n c i vb vc : Nat) (cs vs : List Value) (w : World) (hi : i < n) (hnc : n ≤ c) (hroom : c < n + 1) (hbig : (n + 1) * 32 ≤ 140737488355328)
    (hcl : cs.length = n * 3) (hvl : vs.length = 3) (hbw : b < w.heap.size) (hvw : vb < w.heap.size)
    (hcs : ∀ j v, cs[j]? = some v → w.cell? ⟨b, j, none⟩ = some v)
    (hvs : ∀ j v, vs[j]? = some v → w.cell? ⟨vb, j, none⟩ = some v) (h1c : ∀ v ∈ cs, v.oneCell' = true) (h1v : ∀ v ∈ vs, v.oneCell' = true) :
    Calls Tryz.prog 35 #[.slice (some ⟨b, 0, none⟩) n c, .int .i64 i, .slice (some ⟨vb, 0, none⟩) 1 vc] w fun e w' =>
      e = .returned (.slice (some ⟨w.heap.size, 0, none⟩) (n + 1) (grownCap w (n + 1) c 48)) ∧
      ∃ zc : Array Value, zc.size = 3 ∧ w' = (((w.alloc (.cells ((cs.take (i * 3)).toArray ++ Builtin.zeroCells zc (n + 1 - i) ++ Builtin.zeroCells zc (grownCap w (n + 1) c 48 - (n + 1))) 48)).drew.setCells w.heap.size (i * 3) vs).drew).setCells w.heap.size ((i + 1) * 3) (cs.drop (i * 3)) := by
  have mixed : Tryz.prog.follows .mixedOrders = true := by kernel_rfl
  obtain ⟨i0, z, hi0, hz0, hzs, hzb, hzc⟩ := insW_info
  have hz2 : ¬ ((i : Int) = (n : Int)) := by omega
  have hz3 : (c : Int) < (n : Int) + 1 := by omega
  have hsz : (Tryz.prog.info? 48).map (·.size) = some 3 := by rw [hi0]; simp [hzs]
  have hkk : (n : Int) + 1 - (i : Int) = ((n + 1 - i : Nat) : Int) := by omega
  have hik : i + (n + 1 - i) = n + 1 := by omega
  have hold : (Builtin.firstCells i0.size i (.slice (some ⟨b, 0, none⟩) i c)).run Tryz.prog w.drew = .ok (cs.take (i * 3)).toArray w.drew := by
    rw [hzs]
    exact run_firstCells_some w.drew 3 i ⟨b, 0, none⟩ i c (cs.take (i * 3)) (by rw [List.length_take]; omega) (fun j v hj => by
      rw [addr_add, Nat.zero_add]
      rw [List.getElem?_take] at hj
      split at hj
      · exact hcs j v hj
      · cases hj)
  have hrz : ∀ ty, (Builtin.append_ #[36, 3] ty #[.slice (some ⟨b, 0, none⟩) i c, .int .i64 ((n : Int) + 1 - (i : Int))]).run Tryz.prog w =
      .ok (.slice (some ⟨w.heap.size, 0, none⟩) (n + 1) (grownCap w (n + 1) c 48)) (w.drew.alloc (.cells ((cs.take (i * 3)).toArray ++ Builtin.zeroCells z.cells (n + 1 - i) ++ Builtin.zeroCells z.cells (grownCap w (n + 1) c 48 - (n + 1))) 48)) := fun ty => by
    have h := Lib.run_append_grow_zeros w 36 3 ty 48 i0 z .i64 .i64 Tryz.underlying36 Tryz.underlying3 hi0 hz0 (some ⟨b, 0, none⟩) i c (cs.take (i * 3)) hold (n + 1 - i) (by omega) (by omega) (by omega) (by omega) (by rw [hzb]; omega) (by rw [hzb, hik]; exact growslice_fits hroom hbig)
    rw [hik] at h
    rw [hkk]
    exact h
  obtain ⟨G, hG⟩ : ∃ G, G = grownCap w (n + 1) c 48 := ⟨_, rfl⟩
  obtain ⟨ROW, hROW⟩ : ∃ ROW : Array Value, ROW = (cs.take (i * 3)).toArray ++ Builtin.zeroCells z.cells (n + 1 - i) ++ Builtin.zeroCells z.cells (G - (n + 1)) := ⟨_, rfl⟩
  rw [← hG] at hrz ⊢
  rw [← hROW] at hrz
  have hRl : (n + 1) * 3 ≤ ROW.size := by
    rw [hROW]
    simp [Builtin.zeroCells, hzc]
    omega
  obtain ⟨W1, hW1⟩ : ∃ W1, W1 = w.drew.alloc (.cells ROW 48) := ⟨_, rfl⟩
  rw [← hW1] at hrz
  have hN : ∀ j, j < (n + 1) * 3 → (W1.cell? ⟨w.heap.size, j, none⟩).isSome = true := fun j hj => by
    rw [hW1, World.cell?_alloc_at (w := w.drew) ROW _ w.heap.size j rfl, Array.getElem?_eq_getElem (by omega)]; rfl
  have hNf : ∀ j, W1.frozen? ⟨w.heap.size, j, none⟩ = false := fun j => by rw [hW1]; exact World.frozen?_alloc_at (w := w.drew) ROW _ w.heap.size j rfl
  have hOb : ∀ j v, w.cell? ⟨b, j, none⟩ = some v → W1.cell? ⟨b, j, none⟩ = some v := fun j v h => by rw [hW1, World.cell?_alloc_past (w := w.drew) _ b j hbw]; exact h
  have hOv : ∀ j v, w.cell? ⟨vb, j, none⟩ = some v → W1.cell? ⟨vb, j, none⟩ = some v := fun j v h => by rw [hW1, World.cell?_alloc_past (w := w.drew) _ vb j hvw]; exact h
  have hcpA : ∀ (W : World), (∀ x, W.cell? x = W1.cell? x) → (∀ x, W.frozen? x = W1.frozen? x) → ∀ ty dc, (Builtin.copy_ #[36, 36] ty #[.slice (some ⟨w.heap.size, i * 3, none⟩) (n + 1 - i) dc, .slice (some ⟨vb, 0, none⟩) 1 vc]).run Tryz.prog W = .ok (goInt 1) (W.setCells w.heap.size (i * 3) vs) := fun W hWc hWf ty dc => by
    have hm : Nat.min 1 (n + 1 - i) = 1 := by simp only [Nat.min_def]; split <;> omega
    have := run_copy_K (P := Tryz.prog) W 36 36 ty 48 3 w.heap.size (i * 3) (n + 1 - i) dc ⟨vb, 0, none⟩ 1 vc vs Tryz.underlying36 hsz (by rw [hm, hvl]; try omega)
      (fun j v hj => by rw [addr_add, Nat.zero_add, hWc]; exact hOv _ v (hvs j v hj))
      (fun j hj => by rw [hWc]; exact hN _ (by omega)) (fun j hj => by rw [hWf]; exact hNf _) h1v
    rw [hm] at this
    exact this
  have hGn : n + 1 ≤ G := by rw [hG]; exact grownCap_ge w _ _ _
  have hG63 : G ≤ 9223372036854775807 := by
    have := grownCap_le_maxLen w (n + 1) c 48 (by unfold maxLen; omega)
    rw [← hG] at this
    unfold maxLen at this
    omega
  have hGi : ¬ (G = i) := by omega
  have hGim : ¬ (G = i + 1) := by omega
  have hci : ¬ (c = i) := by omega
  have hbN : b ≠ w.heap.size := by omega
  have hdl : (cs.drop (i * 3)).length = (n - i) * 3 := by first | (rw [List.length_drop, hcl]; omega) | (rw [List.length_drop, hcl])
  have hcpB : ∀ (W : World), (∀ x, W.cell? x = (W1.setCells w.heap.size (i * 3) vs).cell? x) → (∀ x, W.frozen? x = (W1.setCells w.heap.size (i * 3) vs).frozen? x) → ∀ ty dc sc, (Builtin.copy_ #[36, 36] ty #[.slice (some ⟨w.heap.size, (i + 1) * 3, none⟩) (n - i) dc, .slice (some ⟨b, i * 3, none⟩) (n - i) sc]).run Tryz.prog W = .ok (goInt ((n - i : Nat) : Int)) (W.setCells w.heap.size ((i + 1) * 3) (cs.drop (i * 3))) := fun W hWc hWf ty dc sc => by
    have hm : Nat.min (n - i) (n - i) = n - i := by simp only [Nat.min_def]; split <;> omega
    have := run_copy_K (P := Tryz.prog) W 36 36 ty 48 3 w.heap.size ((i + 1) * 3) (n - i) dc ⟨b, i * 3, none⟩ (n - i) sc (cs.drop (i * 3)) Tryz.underlying36 hsz (by rw [hm, hdl]; try omega)
      (fun j v hj => by
        rw [addr_add, hWc, World.cell?_setCells_out _ _ _ _ _ (fun h _ => absurd h hbN)]
        exact hOb _ v (hcs (i * 3 + j) v (by rwa [List.getElem?_drop] at hj)))
      (fun j hj => by rw [hWc]; exact isSome_setCellsK _ _ _ _ (fun t ht => hN _ (by omega)) _ (hN _ (by omega)))
      (fun j hj => by rw [hWf, World.frozen?_setCells]; exact hNf _) (fun v hv => h1c v (List.mem_of_mem_drop hv))
    rw [hm] at this
    exact this
  subst hW1
  have hE1 : ∀ x, ((w.alloc (.cells ROW 48)).drew).cell? x = (w.drew.alloc (.cells ROW 48)).cell? x := fun x => rfl
  have hE2 : ∀ x, ((w.alloc (.cells ROW 48)).drew).frozen? x = (w.drew.alloc (.cells ROW 48)).frozen? x := fun x => rfl
  have hF1 : ∀ x, (((w.alloc (.cells ROW 48)).drew.setCells w.heap.size (i * 3) vs).drew).cell? x = ((w.drew.alloc (.cells ROW 48)).setCells w.heap.size (i * 3) vs).cell? x := fun x => rfl
  have hF2 : ∀ x, (((w.alloc (.cells ROW 48)).drew.setCells w.heap.size (i * 3) vs).drew).frozen? x = ((w.drew.alloc (.cells ROW 48)).setCells w.heap.size (i * 3) vs).frozen? x := fun x => rfl
  have hw1 : IntKind.i64.wrap ((i : Int) + 1) = (i : Int) + 1 := by rw [IntKind.wrap_i64]; omega
  have hb1 : (0 : Int) ≤ (i : Int) + 1 := by omega
  have hin : i ≤ n := by omega
  have htn : ((i : Int) + 1).toNat = i + 1 := by omega
  have hb3 : (i : Int) ≤ (n : Int) := by omega
  have h0 : Calls Tryz.prog 35 #[.slice (some ⟨b, 0, none⟩) n c, .int .i64 i, .slice (some ⟨vb, 0, none⟩) 1 vc] w fun e w' =>
      e = .returned (.slice (some ⟨w.heap.size, 0, none⟩) (n + 1) G) ∧ w' = (((w.alloc (.cells ROW 48)).drew.setCells w.heap.size (i * 3) vs).drew).setCells w.heap.size ((i + 1) * 3) (cs.drop (i * 3)) := by
   clear hkk hik hold hG hRl hROW hz0
   go_enter Tryz.func35, Tryz.ntmps35
   go_wp2_with (first
     | (at_builtin; refine Lib.wpList_append_run _ rfl _ _ _ _ rfl _ _ rfl rfl _ _ (hrz _) ?_)
     | (at_builtin; refine wpList_copyK _ rfl _ _ 36 36 rfl _ _ rfl rfl (hcpA _ hE1 hE2 _ _) ?_))
   go_region_law_o (refine step_copyK rfl _ _ 36 36 rfl (.slice (some ⟨w.heap.size, (i + 1) * 3, none⟩) (n - i) (G - (i + 1))) (.slice (some ⟨b, i * 3, none⟩) (n - i) (c - i)) (by simp [Act.eval, Act.put]) (by simp [Act.eval, Act.put]) (hcpB _ hF1 hF2 3 (G - (i + 1)) (c - i)) ?_)
   go_wp2
   go_ret
   exact ⟨rfl, rfl⟩
  refine h0.mono ?_
  rintro e w' ⟨rfl, rfl⟩
  exact ⟨rfl, z.cells, hzc, by rw [hROW]⟩
/-- slices.Insert of one element. -/
theorem insW_ok (es : List (List D)) (x : List D) (i : Nat) (z z2 : List D) (hes : rowsOk 3 es) (hx : rowsOk 3 [x]) (hi : i ≤ es.length) (hbig : (es.length + 1) * 32 ≤ 140737488355328) :
    FnMem Tryz.prog 35 [.os 50001 es.length, .d (.lit (.int .i64 i)), .os 50002 1] [(50001, .own 48 3 (true, z) es), (50002, .own 48 3 (true, z2) [x])] (.os 50001 (es.length + 1)) [(50001, .own 48 3 (true, z) (es.take i ++ x :: es.drop i))] := by
  refine ⟨by kernel_rfl, fun ok h w vs hok hstd hlow hlies hargs => ?_⟩
  obtain ⟨hvs, hva⟩ := hargs
  obtain ⟨hs1, hm1, ho1⟩ := hlies.obj 50001 _ rfl
  obtain ⟨hs2, hm2, ho2⟩ := hlies.obj 50002 _ rfl
  obtain ⟨v0, hv0, hr0⟩ := hva 0 _ rfl
  obtain ⟨v1, hv1, hr1⟩ := hva 1 _ rfl
  obtain ⟨v2, hv2, hr2⟩ := hva 2 _ rfl
  obtain rfl : vs = #[v0, v1, v2] := by
    obtain ⟨vs⟩ := vs
    match vs, hvs, hv0, hv1, hv2 with
    | [_, _, _], _, hv0, hv1, hv2 => cases hv0; cases hv1; cases hv2; rfl
  obtain rfl := lit_of hr1
  cases hr0 with
  | os _ _ hc1 =>
  cases hr2 with
  | os _ _ hc2 =>
  clear hva hv0 hv1 hv2 hr1 hvs
  have hlen' : (es.take i ++ x :: es.drop i).length = es.length + 1 := by simp; omega
  rcases ho2 with ⟨_, e2, _⟩ | ⟨vb, cur2, fz2, g1, g2, g3, g4, g5, g6, g7⟩
  · cases e2
  obtain rfl := g4 rfl
  have hx1 : [x].length * 3 ≤ cur2.size := by rw [g6]; simp only [List.length_cons, List.length_nil] at g5 ⊢; omega
  have hxr := own_cells (w := w) (ok := ok) g7 (by omega)
  try simp only [Nat.mul_one] at hxr
  have hxo := rows_one hxr hx (by decide)
  have hxl := hxr.1
  have hvs : ∀ j v, (cur2.toList.take ([x].length * 3))[j]? = some v → w.cell? ⟨vb, j, none⟩ = some v := fun j v hj => by
    rw [List.getElem?_take] at hj
    split at hj
    · simpa [World.cell?, g2] using hj
    · cases hj
  generalize cur2.toList.take ([x].length * 3) = vs at hxr hxo hxl hvs
  simp only [List.length_cons, List.length_nil] at hxl
  obtain ⟨hvlt, hvok⟩ := hlies.blk 50002 _ vb rfl g1
  have hsa : w.shape? vb = some (48, cur2.size) := by simp [World.shape?, g2]
  have hfa : w.frozen? ⟨vb, 0, none⟩ = false := by simp [World.frozen?, g2]
  have hfe : w.frozen? ⟨vb, cur2.size, none⟩ = false := by simp [World.frozen?, g2]
  have ha2 : (h 50002).addr = some ⟨vb, 0, none⟩ := by simp [Hd.addr, g1]
  rw [ha2]
  -- a new row, of the cells that it should have
  have fresh : ∀ (w' : World) (b' cap' : Nat) (cur' : Array Value) (cs : List Value), RowsRd w ok 3 es cs → w'.os = w.os → w'.tape = w.tape → w'.output = w.output → w.heap.size ≤ w'.heap.size → (∀ k, k < w.heap.size → k ≠ b' → w'.heap[k]? = w.heap[k]?) →
      ((h 50001).blk = some b' ∨ (w.heap.size ≤ b' ∧ b' < w'.heap.size)) → w'.heap[b']? = some (.cells cur' 48 (0, 0)) → cur'.size = cap' * 3 → cap' ≤ maxLen → es.length + 1 ≤ cap' → (∀ q, q < (es.length + 1) * 3 → cur'[q]? = (cs.take (i * 3) ++ vs ++ cs.drop (i * 3))[q]?) →
      ∃ v ok' h', Ending.returned (.slice (some ⟨b', 0, none⟩) (es.length + 1) cap') = .returned v ∧ Lw.Left [(50001, .own 48 3 (true, z) es), (50002, .own 48 3 (true, z2) [x])] [(50001, .own 48 3 (true, z) (es.take i ++ x :: es.drop i))] (.os 50001 (es.length + 1)) ok h w ok' h' w' v := fun w' b' cap' cur' cs hcs k1 k2 k3 k4 k5 k6 k7 k8 k9 k10 k11 => by
    have hrr := ins_rows hcs hxr hi
    try simp only [Nat.mul_one] at hrr
    refine ⟨_, ok, _, rfl, left_row hok hlies rfl k1 k2 k3 k4 k5 k6 k7 k8 k9 (by rw [hlen']; exact k10) k10 (hrr.own fun q hq => k11 q ?_)⟩
    rw [hrr.1, hlen'] at hq
    omega
  have nothing : ∀ (cs : List Value), cs.length = es.length * 3 → ∀ q, (cs.take (i * 3) ++ vs ++ cs.drop (i * 3))[q]? = if q < i * 3 then cs[q]? else if q < (i + 1) * 3 then vs[q - i * 3]? else cs[q - 3]? := fun cs hl q => by
    have htl : (cs.take (i * 3)).length = i * 3 := by rw [List.length_take]; omega
    by_cases q1 : q < i * 3
    · rw [if_pos q1, List.append_assoc, List.getElem?_append_left (by omega), List.getElem?_take, if_pos q1]
    · rw [if_neg q1]
      by_cases q2 : q < (i + 1) * 3
      · rw [if_pos q2, List.append_assoc, List.getElem?_append_right (by omega), List.getElem?_append_left (by omega), htl]
      · rw [if_neg q2, List.append_assoc, List.getElem?_append_right (by omega), List.getElem?_append_right (by omega), List.getElem?_drop, htl]
        congr 1
        omega
  rcases ho1 with ⟨e1, e2, e3⟩ | ⟨b, cur, fz, f1, f2, f3, f4, f5, f6, f7⟩
  · subst e2
    simp only [List.length_nil, Nat.le_zero_eq] at hi
    subst hi
    have ha : (h 50001).addr = (none : Option Nat).map fun b => ⟨b, 0, none⟩ := by simp [Hd.addr, e1]
    rw [ha, e3]
    refine (insW_end_grow none 0 0 vb _ [] vs w (by omega) (by omega) (by omega) rfl (by omega) (fun _ => rfl) (fun b hb => by cases hb) hvs hxo).mono ?_
    rintro e w' ⟨rfl, zc, hzc, rfl⟩
    have hG := grownCap_ge w 1 0 48
    have hGm := grownCap_le_maxLen w 1 0 48 (by unfold maxLen; omega)
    refine fresh _ w.heap.size (grownCap w 1 0 48) _ [] ⟨rfl, fun j l hj => by simp at hj⟩ rfl rfl rfl (by show w.heap.size ≤ (w.heap.push _).size; simp) (fun k hk _ => by show (w.heap.push _)[k]? = _; rw [Array.getElem?_push, if_neg (Nat.ne_of_lt hk)]) (.inr ⟨Nat.le_refl _, by show w.heap.size < (w.heap.push _).size; simp⟩) (heap_alloc_new w.drew _) ?_ hGm hG (fun q hq => ?_)
    · simp [Builtin.zeroCells, hzc, hxl]
      omega
    · simp only [List.length_nil] at hq
      rw [List.nil_append, Array.getElem?_append_left (by simp; omega)]
      simp
  · obtain rfl := f4 rfl
    have hfit : es.length * 3 ≤ cur.size := by rw [f6]; omega
    have hcr := own_cells (w := w) (ok := ok) f7 (by omega)
    try simp only [Nat.mul_one] at hcr
    have hco := rows_one hcr hes (by decide)
    have hcl := hcr.1
    try simp only [Nat.mul_one] at hcl
    have hcq : ∀ j, (cur.toList.take (es.length * 3))[j]? = if j < es.length * 3 then cur[j]? else none := fun j => by rw [List.getElem?_take]; simp
    have hcs : ∀ j v, (cur.toList.take (es.length * 3))[j]? = some v → w.cell? ⟨b, j, none⟩ = some v := fun j v hj => by
      rw [hcq] at hj
      split at hj
      · simpa [World.cell?, f2] using hj
      · cases hj
    generalize cur.toList.take (es.length * 3) = cs at hcr hco hcl hcs hcq
    obtain ⟨hblt, hbok⟩ := hlies.blk 50001 _ b rfl f1
    have hvb : vb ≠ b := fun e => hlies.apart 50001 50002 _ _ b rfl rfl (by decide) f1 (by rw [g1, e])
    have ha1 : (h 50001).addr = (some b).map fun b => ⟨b, 0, none⟩ := by simp [Hd.addr, f1]
    have hcell : ∀ j, j < cur.size → (w.cell? ⟨b, j, none⟩).isSome = true := fun j hj => by simp [World.cell?, f2, hj]
    have hfro : ∀ j, w.frozen? ⟨b, j, none⟩ = false := fun j => by simp [World.frozen?, f2]
    have hnth := nothing cs hcl
    rw [ha1]
    by_cases hroom : es.length + 1 ≤ (h 50001).cap
    · have hsz : (es.length + 1) * 3 ≤ cur.size := by rw [f6]; omega
      by_cases hin : i = es.length
      · subst hin
        refine (insW_end_room b es.length _ vb _ vs w hroom (by have := hm1; unfold maxLen at this; omega) (by omega) (fun j hj => hcell _ (by omega)) (fun j hj => hfro _) hvs hxo).mono ?_
        rintro e w' ⟨rfl, rfl⟩
        obtain ⟨cur', c1, c2, c3⟩ := heap_setCells b 48 (0, 0) vs (es.length * 3) cur w f2 (by omega)
        obtain ⟨d1, d2, d3, d4, d5⟩ := setCells_frame b vs (es.length * 3) w
        refine fresh _ b (h 50001).cap cur' cs hcr d1 d2 d3 (by omega) (fun k _ hk => d5 k hk) (.inl f1) c1 (by omega) hm1 hroom (fun q hq => ?_)
        rw [c3, hnth]
        by_cases q1 : q < es.length * 3
        · rw [if_neg (by omega), if_pos q1, hcq, if_pos q1]
        · rw [if_pos (by omega), if_neg q1, if_pos hq]
      · refine (insW_shift b es.length _ i vb _ cs vs w (by omega) hroom (by have := hm1; unfold maxLen at this; omega) hvb hcl (by omega) hcs (fun j hj => hcell _ (by omega)) (fun j hj => hfro _) hvs hco hxo _ 48 _ cur.size hsa (by simp [World.shape?, f2]) (by omega) hfa hfe).mono ?_
        rintro e w' ⟨rfl, rfl⟩
        have hdl : (cs.drop (i * 3)).length = es.length * 3 - i * 3 := by rw [List.length_drop, hcl]
        obtain ⟨cur1, c1, c2, c3⟩ := heap_setCells b 48 (0, 0) (cs.drop (i * 3)) ((i + 1) * 3) cur w.drew f2 (by omega)
        obtain ⟨d1, d2, d3, d4, d5⟩ := setCells_frame b (cs.drop (i * 3)) ((i + 1) * 3) w.drew
        obtain ⟨cur', c4, c5, c6⟩ := heap_setCells b 48 (0, 0) vs (i * 3) cur1 _ c1 (by omega)
        obtain ⟨d6, d7, d8, d9, d10⟩ := setCells_frame b vs (i * 3) (w.drew.setCells b ((i + 1) * 3) (cs.drop (i * 3)))
        refine fresh _ b (h 50001).cap cur' cs hcr (d6.trans d1) (d7.trans d2) (d8.trans d3) (by rw [d9, d4]; exact Nat.le_refl _) (fun k _ hk => (d10 k hk).trans (d5 k hk)) (.inl f1) c4 (by omega) hm1 hroom (fun q hq => ?_)
        rw [c6, c3, hnth]
        by_cases q1 : q < i * 3
        · rw [if_neg (by omega), if_neg (by omega), if_pos q1, hcq, if_pos (by omega)]
        · by_cases q2 : q < (i + 1) * 3
          · rw [if_pos (by omega), if_neg q1, if_pos q2]
          · rw [if_neg (by omega), if_pos (by omega), if_neg q1, if_neg q2, List.getElem?_drop]
            congr 1
            omega
    · have hG := grownCap_ge w (es.length + 1) (h 50001).cap 48
      have hGm := grownCap_le_maxLen w (es.length + 1) (h 50001).cap 48 (by unfold maxLen; omega)
      by_cases hin : i = es.length
      · subst hin
        refine (insW_end_grow (some b) es.length _ vb _ cs vs w (by omega) (by omega) hbig hcl (by omega) (fun e => by cases e) (fun b' hb' => by cases hb'; exact hcs) hvs hxo).mono ?_
        rintro e w' ⟨rfl, zc, hzc, rfl⟩
        refine fresh _ w.heap.size (grownCap w (es.length + 1) (h 50001).cap 48) _ cs hcr rfl rfl rfl (by show w.heap.size ≤ (w.heap.push _).size; simp) (fun k hk _ => by show (w.heap.push _)[k]? = _; rw [Array.getElem?_push, if_neg (Nat.ne_of_lt hk)]) (.inr ⟨Nat.le_refl _, by show w.heap.size < (w.heap.push _).size; simp⟩) (heap_alloc_new w.drew _) ?_ hGm hG (fun q hq => ?_)
        · simp [Builtin.zeroCells, hzc, hxl, hcl]
          omega
        · rw [Array.getElem?_append_left (by simp; omega)]
          have ht : cs.take (es.length * 3) = cs := List.take_of_length_le (by omega)
          have hdr : cs.drop (es.length * 3) = [] := List.drop_eq_nil_of_le (by omega)
          rw [ht, hdr]
          simp
      · refine (insW_grow b es.length _ i vb _ cs vs w (by omega) (by omega) (by omega) hbig hcl (by omega) hblt hvlt hcs hvs hco hxo).mono ?_
        rintro e w' ⟨rfl, zc, hzc, rfl⟩
        have hdl : (cs.drop (i * 3)).length = es.length * 3 - i * 3 := by rw [List.length_drop, hcl]
        have htl : (cs.take (i * 3)).length = i * 3 := by rw [List.length_take]; omega
        generalize hROW : (cs.take (i * 3)).toArray ++ Builtin.zeroCells zc (es.length + 1 - i) ++ Builtin.zeroCells zc (grownCap w (es.length + 1) (h 50001).cap 48 - (es.length + 1)) = ROW
        have hRs : ROW.size = grownCap w (es.length + 1) (h 50001).cap 48 * 3 := by
          rw [← hROW]
          simp [Builtin.zeroCells, hzc]
          omega
        have hR1 : ∀ q, q < i * 3 → ROW[q]? = cs[q]? := fun q hq => by
          rw [← hROW, Array.append_assoc, Array.getElem?_append_left (by simp; omega)]
          simp [hq]
        have h0 : ((w.alloc (.cells ROW 48)).drew).heap[w.heap.size]? = some (.cells ROW 48 (0, 0)) := heap_alloc_new w _
        obtain ⟨cur1, c1, c2, c3⟩ := heap_setCells w.heap.size 48 (0, 0) vs (i * 3) ROW _ h0 (by omega)
        obtain ⟨d1, d2, d3, d4, d5⟩ := setCells_frame w.heap.size vs (i * 3) ((w.alloc (.cells ROW 48)).drew)
        obtain ⟨cur', c4, c5, c6⟩ := heap_setCells w.heap.size 48 (0, 0) (cs.drop (i * 3)) ((i + 1) * 3) cur1 (((w.alloc (.cells ROW 48)).drew.setCells w.heap.size (i * 3) vs).drew) c1 (by omega)
        obtain ⟨d6, d7, d8, d9, d10⟩ := setCells_frame w.heap.size (cs.drop (i * 3)) ((i + 1) * 3) (((w.alloc (.cells ROW 48)).drew.setCells w.heap.size (i * 3) vs).drew)
        have hsz4 : ((w.alloc (.cells ROW 48)).drew).heap.size = w.heap.size + 1 := by show (w.heap.push _).size = _; simp
        have hd9 : ((((w.alloc (.cells ROW 48)).drew.setCells w.heap.size (i * 3) vs).drew).setCells w.heap.size ((i + 1) * 3) (cs.drop (i * 3))).heap.size = w.heap.size + 1 := d9.trans (d4.trans hsz4)
        refine fresh _ w.heap.size (grownCap w (es.length + 1) (h 50001).cap 48) cur' cs hcr (d6.trans d1) (d7.trans d2) (d8.trans d3) (by omega) (fun k hk hne => (d10 k hne).trans ((d5 k hne).trans (by show (w.heap.push _)[k]? = _; rw [Array.getElem?_push, if_neg (Nat.ne_of_lt hk)]))) (.inr ⟨Nat.le_refl _, by omega⟩) c4 (by omega) hGm hG (fun q hq => ?_)
        rw [c6, c3, hnth]
        by_cases q1 : q < i * 3
        · rw [if_neg (by omega), if_neg (by omega), if_pos q1, hR1 q q1]
        · by_cases q2 : q < (i + 1) * 3
          · rw [if_neg (by omega), if_pos (by omega), if_neg q1, if_pos q2]
          · rw [if_pos (by omega), if_neg q1, if_neg q2, List.getElem?_drop]
            congr 1
            omega
end Go.Proofs.YtpmfmjgnhdfakaaGreatDoor
/-
  FRONTIER: Add: where an item stands, what is inserted (program). (WITH run_drawN.)
-/
set_option linter.unusedSimpArgs false
set_option linter.unusedVariables false
namespace Go.Proofs.YtpmfmjgnhdfakaaGreatDoor
open Go.Lw Go.RowKit
set_option maxRecDepth 100000
set_option maxHeartbeats 2000000

abbrev keyAt (I : List Wnt) (j : Nat) : Bs := (wntAt I j).1
theorem addCmp_ok (x : Wnt) (s : Bs) : FnOk Tryz.prog 33 [wntD x, str s] (int (Lib.compareBytes x.1 s)) := by
  refine fnOk Tryz.func33 rfl (by kernel_rfl) Tryz.ntmps33 _ rfl (by simp) fun C hc => ?_
  have h1 := strCompare_ok x.1 s
  repeat' (first | (first | refine Ya ?_ | refine Yb ?_ | refine Yc ?_ | refine Yd ?_ | refine Ye ?_ | refine Yf ?_ | refine Yg ?_ | refine Yh ?_ | refine Yi ?_ | refine Yj ?_ | refine Yk ?_ | refine Yl ?_ | refine Ym ?_ | refine Yn ?_ | refine Yo ?_ | refine Yp (h := ?_) | refine Yq ?_ | refine Yr ?_ | refine Ys ?_ | refine Zr hc (hk := ?_) | refine Zd hc (hk := ?_) | (refine Zc (ht := fun hb => ?_) (hf := fun hb => ?_) <;> (try simp at hb)) | fail) | (first | refine Zw hc (hf := by exact h1) (hk := ?_) | refine Zq hc (hf := by exact h1) (hk := ?_) | refine Zo hc (hk := ?_) | refine Zu hc (hk := ?_) | refine Ze hc (hk := ?_) | refine Zn hc (hk := ?_) | fail))
  (refine Zl hc (hr := ?_))
  simp
theorem bsWnt_ok (H : List Wnt) (s : Bs) (hl : H.length ≤ 2000) (ha : ascB (keyAt H) H.length) : FnOk Tryz.prog 32 [wntSl H, str s, .lit (.func (.func 33) #[] #[])]
    (.tup [int (lbB (keyAt H) H.length s), tru (thereB (keyAt H) H.length s)]) := by
  refine fnOk Tryz.func32 rfl (by kernel_rfl) Tryz.ntmps32 _ rfl (by simp) fun C hc => ?_
  repeat' (first | (first | refine Ya ?_ | refine Yb ?_ | refine Yc ?_ | refine Yd ?_ | refine Ye ?_ | refine Yf ?_ | refine Yg ?_ | refine Yh ?_ | refine Yi ?_ | refine Yj ?_ | refine Yk ?_ | refine Yl ?_ | refine Ym ?_ | refine Yn ?_ | refine Yo ?_ | refine Yp (h := ?_) | refine Yq ?_ | refine Yr ?_ | refine Ys ?_ | refine Zr hc (hk := ?_) | refine Zd hc (hk := ?_) | (refine Zc (ht := fun hb => ?_) (hf := fun hb => ?_) <;> (try simp at hb)) | fail) | (first | refine Zo hc (hk := ?_) | refine Zu hc (hk := ?_) | refine Ze hc (hk := ?_) | refine Zn hc (hk := ?_) | fail))
  refine ewp_loop (fun x : Nat × Nat => ⟨[(0, .d (wntSl H)), (1, .d (str s)), (2, .d (.lit (.func (.func 33) #[] #[]))), (8, .d (int H.length)), (9, .d (int x.1)), (10, .d (int x.2))], []⟩)
    (fun x => x.1 ≤ x.2 ∧ x.2 ≤ H.length ∧ (∀ j, j < x.1 → Op.bytesLess (keyAt H j) s = true) ∧ (x.2 < H.length → Op.bytesLess (keyAt H x.2) s = false)) (fun x => x.2 - x.1) (0, H.length) (by simp) (run_keep [0, 1, 2, 8, 9, 10] [] (by simp; exact Gives.mk) (by simp; exact Gives.mk)) ?_
  rintro ⟨i, j⟩ ⟨h1, h2, h3, h4⟩
  simp only at h1 h2 h3 h4 ⊢
  by_cases hij : i < j
  · obtain ⟨m, hm, hm1, hm2⟩ : ∃ m : Nat, (i + j) / 2 = m ∧ i ≤ m ∧ m < j := ⟨_, rfl, by omega, by omega⟩
    have hC := addCmp_ok (wntAt H m) s
    have hneg := cmp_neg (wntAt H m).1 s
    generalize Lib.compareBytes (wntAt H m).1 s = c at hC hneg
    have hfd := half_of hm
    repeat' (first | (first | refine ewp_seq ?_ | refine run_region hc (by simp [hfd]; exact Ends.go) (by first | exact True.intro | omega | assumption | (simp; done) | (simp; omega) | (simp at *; omega)) ?_ | refine run_draw hc (by kernel_rfl) (by kernel_rfl) (by simp [hfd]; exact Ends.go) (by first | exact True.intro | omega | assumption | (simp; done) | (simp; omega) | (simp at *; omega)) ?_ | refine ewp_scope ?_ | refine scopeQ_normal ?_ | refine scopeQ_ret ?_ | refine scopeQ_exit ?_ | refine ewp_skip ?_ | refine ewp_block ?_ | refine ewp_exit ?_ | refine ewp_label ?_ | refine thenQ_normal ?_ | refine thenQ_ret ?_ | refine thenQ_exit ?_ | refine blockQ_normal ?_ | refine blockQ_ret ?_ | refine blockQ_here ?_ | refine blockQ_there (by decide) ?_ | refine ewp_ret ?_ | refine opsW_nil ?_ | refine quietW_nil ?_ | (refine run_cond (by simp [hfd]; exact Gives.mk) (fun hb => ?_) (fun hb => ?_) <;> (try simp at hb)) | fail) | (first | refine run_callW hc (by simp [hfd]; exact Gives.mk) (by simp [hfd]; exact Gives.mk) (by simp [hfd]; exact Gives.mk) (by simp [hfd]; exact Gives.mk) (by simp [hfd]; exact Gives.mk) (fun _ => by first | exact hC) (by simp) (by simp) ?_ | refine run_callQ hc (by simp [hfd]; exact Gives.mk) (by simp [hfd]; exact Gives.mk) (by simp [hfd]; exact Gives.mk) (by simp [hfd]; exact Gives.mk) (by simp [hfd]; exact Gives.mk) (fun _ => by first | exact hC) (by simp) (by simp) ?_ | refine run_ops hc (by simp [hfd]; first | exact Ends.go | exact Ends.halt) (by decide) (by first | exact True.intro | omega | assumption | (simp; done) | (simp; omega) | (simp at *; omega)) ?_ | refine run_quiet hc (by simp [hfd]; first | exact Ends.go | exact Ends.halt) (by decide) (by first | exact True.intro | omega | assumption | (simp; done) | (simp; omega) | (simp at *; omega)) ?_ | refine run_regionW hc (by simp [hfd]; exact Ends.halt) (by first | exact True.intro | omega | assumption | (simp; done) | (simp; omega) | (simp at *; omega)) ?_ | refine run_drawN hc (by kernel_rfl) (by decide) (by kernel_rfl) (by simp [hfd]; exact Ends.halt) (by first | exact True.intro | omega | assumption | (simp; done) | (simp; omega) | (simp at *; omega)) ?_ | fail))
    all_goals try (exfalso; omega)
    · have hk := hneg.1 hb
      exact ⟨(m + 1, j), ⟨by simp only; omega, h2, fun t ht => by
        simp only at ht
        rcases Nat.lt_or_ge t m with h | h
        · exact bl_trans (ha t m h (by omega)) hk
        · obtain rfl : t = m := by omega
          exact hk, h4⟩, by simp only; omega, run_back [0, 1, 2, 8, 9, 10] [] (by simp; exact Gives.mk) (by simp; exact Gives.mk) (by simp)⟩
    · have hk : Op.bytesLess (keyAt H m) s = false := Bool.eq_false_iff.2 fun e => by
        have := hneg.2 e
        omega
      exact ⟨(i, m), ⟨by simp only; omega, by simp only; omega, h3, fun _ => hk⟩, by simp only; omega, run_back [0, 1, 2, 8, 9, 10] [] (by simp; exact Gives.mk) (by simp; exact Gives.mk) (by simp)⟩
  · obtain rfl : i = j := by omega
    have e := lbB_of h2 h3 h4
    repeat' (first | (first | refine Ya ?_ | refine Yb ?_ | refine Yc ?_ | refine Yd ?_ | refine Ye ?_ | refine Yf ?_ | refine Yg ?_ | refine Yh ?_ | refine Yi ?_ | refine Yj ?_ | refine Yk ?_ | refine Yl ?_ | refine Ym ?_ | refine Yn ?_ | refine Yo ?_ | refine Yp (h := ?_) | refine Yq ?_ | refine Yr ?_ | refine Ys ?_ | refine Zr hc (hk := ?_) | refine Zd hc (hk := ?_) | (refine Zc (ht := fun hb => ?_) (hf := fun hb => ?_) <;> (try simp at hb)) | fail) | (first | refine Zo hc (hk := ?_) | refine Zu hc (hk := ?_) | refine Ze hc (hk := ?_) | refine Zn hc (hk := ?_) | fail))
    all_goals try (exfalso; omega)
    unfold thereB
    rw [e]
    by_cases hn : i < H.length
    · have hC := addCmp_ok (wntAt H i) s
      have hz := cmp_zero (wntAt H i).1 s
      generalize Lib.compareBytes (wntAt H i).1 s = c at hC hz
      repeat' (first | (first | refine ewp_seq ?_ | refine run_region hc (by simp [hn]; exact Ends.go) (by first | exact True.intro | omega | assumption | (simp; done) | (simp; omega) | (simp at *; omega)) ?_ | refine run_draw hc (by kernel_rfl) (by kernel_rfl) (by simp [hn]; exact Ends.go) (by first | exact True.intro | omega | assumption | (simp; done) | (simp; omega) | (simp at *; omega)) ?_ | refine ewp_scope ?_ | refine scopeQ_normal ?_ | refine scopeQ_ret ?_ | refine scopeQ_exit ?_ | refine ewp_skip ?_ | refine ewp_block ?_ | refine ewp_exit ?_ | refine ewp_label ?_ | refine thenQ_normal ?_ | refine thenQ_ret ?_ | refine thenQ_exit ?_ | refine blockQ_normal ?_ | refine blockQ_ret ?_ | refine blockQ_here ?_ | refine blockQ_there (by decide) ?_ | refine ewp_ret ?_ | refine opsW_nil ?_ | refine quietW_nil ?_ | (refine run_cond (by simp [hn]; exact Gives.mk) (fun hb => ?_) (fun hb => ?_) <;> (try simp at hb)) | fail) | (first | refine run_callW hc (by simp [hn]; exact Gives.mk) (by simp [hn]; exact Gives.mk) (by simp [hn]; exact Gives.mk) (by simp [hn]; exact Gives.mk) (by simp [hn]; exact Gives.mk) (fun _ => by first | exact hC) (by simp) (by simp) ?_ | refine run_callQ hc (by simp [hn]; exact Gives.mk) (by simp [hn]; exact Gives.mk) (by simp [hn]; exact Gives.mk) (by simp [hn]; exact Gives.mk) (by simp [hn]; exact Gives.mk) (fun _ => by first | exact hC) (by simp) (by simp) ?_ | refine run_ops hc (by simp [hn]; first | exact Ends.go | exact Ends.halt) (by decide) (by first | exact True.intro | omega | assumption | (simp; done) | (simp; omega) | (simp at *; omega)) ?_ | refine run_quiet hc (by simp [hn]; first | exact Ends.go | exact Ends.halt) (by decide) (by first | exact True.intro | omega | assumption | (simp; done) | (simp; omega) | (simp at *; omega)) ?_ | refine run_regionW hc (by simp [hn]; exact Ends.halt) (by first | exact True.intro | omega | assumption | (simp; done) | (simp; omega) | (simp at *; omega)) ?_ | refine run_drawN hc (by kernel_rfl) (by decide) (by kernel_rfl) (by simp [hn]; exact Ends.halt) (by first | exact True.intro | omega | assumption | (simp; done) | (simp; omega) | (simp at *; omega)) ?_ | fail))
      (refine Zl hc (hr := ?_))
      have e2 : (c == 0) = decide (keyAt H i = s) := by
        rw [Bool.eq_iff_iff]
        simpa using hz
      simp [hn, e2]
    · repeat' (first | (first | refine ewp_seq ?_ | refine run_region hc (by simp [hn]; exact Ends.go) (by first | exact True.intro | omega | assumption | (simp; done) | (simp; omega) | (simp at *; omega)) ?_ | refine run_draw hc (by kernel_rfl) (by kernel_rfl) (by simp [hn]; exact Ends.go) (by first | exact True.intro | omega | assumption | (simp; done) | (simp; omega) | (simp at *; omega)) ?_ | refine ewp_scope ?_ | refine scopeQ_normal ?_ | refine scopeQ_ret ?_ | refine scopeQ_exit ?_ | refine ewp_skip ?_ | refine ewp_block ?_ | refine ewp_exit ?_ | refine ewp_label ?_ | refine thenQ_normal ?_ | refine thenQ_ret ?_ | refine thenQ_exit ?_ | refine blockQ_normal ?_ | refine blockQ_ret ?_ | refine blockQ_here ?_ | refine blockQ_there (by decide) ?_ | refine ewp_ret ?_ | refine opsW_nil ?_ | refine quietW_nil ?_ | (refine run_cond (by simp [hn]; exact Gives.mk) (fun hb => ?_) (fun hb => ?_) <;> (try simp at hb)) | fail) | (first | refine run_skip hc (by simp [hn]; exact Gives.mk) (by simp) ?_ | fail) | (first | refine run_callW hc (by simp [hn]; exact Gives.mk) (by simp [hn]; exact Gives.mk) (by simp [hn]; exact Gives.mk) (by simp [hn]; exact Gives.mk) (by simp [hn]; exact Gives.mk) (fun _ => by first | exact (show FnOk _ _ _ (int 0) from by exfalso; simp_all; done)) (by simp) (by simp) ?_ | refine run_callQ hc (by simp [hn]; exact Gives.mk) (by simp [hn]; exact Gives.mk) (by simp [hn]; exact Gives.mk) (by simp [hn]; exact Gives.mk) (by simp [hn]; exact Gives.mk) (fun _ => by first | exact (show FnOk _ _ _ (int 0) from by exfalso; simp_all; done)) (by simp) (by simp) ?_ | refine run_ops hc (by simp [hn]; first | exact Ends.go | exact Ends.halt) (by decide) (by first | exact True.intro | omega | assumption | (simp; done) | (simp; omega) | (simp at *; omega)) ?_ | refine run_quiet hc (by simp [hn]; first | exact Ends.go | exact Ends.halt) (by decide) (by first | exact True.intro | omega | assumption | (simp; done) | (simp; omega) | (simp at *; omega)) ?_ | refine run_regionW hc (by simp [hn]; exact Ends.halt) (by first | exact True.intro | omega | assumption | (simp; done) | (simp; omega) | (simp at *; omega)) ?_ | refine run_drawN hc (by kernel_rfl) (by decide) (by kernel_rfl) (by simp [hn]; exact Ends.halt) (by first | exact True.intro | omega | assumption | (simp; done) | (simp; omega) | (simp at *; omega)) ?_ | fail))
      (refine Zl hc (hr := ?_))
      simp [hn]
theorem insFr_ok (I : List Wnt) (w : Wnt) (p : Nat) (hp : p ≤ I.length) (hl : I.length ≤ 2000) :
    FnMem Tryz.prog 35 [.os 50001 I.length, .d (int p), .os 50002 1] [(50001, .own 48 3 (true, [str [], int 0, int 0]) (I.map wntCells)), (50002, .own 48 3 (true, [str [], int 0, int 0]) [wntCells w])]
      (.os 50001 (I.length + 1)) [(50001, .own 48 3 (true, [str [], int 0, int 0]) ((I.take p ++ w :: I.drop p).map wntCells))] := by
  have h := insW_ok (I.map wntCells) (wntCells w) p [str [], int 0, int 0] [str [], int 0, int 0] (by simp) (by simp) (by simpa using hp) (by simp; omega)
  simpa using h
/-- A wanted item, added: the frontier, or the error. -/
def joinW (x w : Wnt) : Wnt := (x.1, min x.2.1 w.2.1, min x.2.2 w.2.2)
def addI (I : List Wnt) (w : Wnt) : List Wnt :=
  if thereB (keyAt I) I.length w.1 = true then I.set (lbB (keyAt I) I.length w.1) (joinW (wntAt I (lbB (keyAt I) I.length w.1)) w)
  else I.take (lbB (keyAt I) I.length w.1) ++ w :: I.drop (lbB (keyAt I) I.length w.1)
def addE (f : Frt) (w : Wnt) : Nat := if frE f ≠ 0 then frE f else if wntE w ≠ 0 then wntE w else if thereB (keyAt f.items) f.items.length w.1 = false ∧ 2000 ≤ f.items.length then 16 else 0
def addD (f : Frt) (w : Wnt) : D := if addE f w ≠ 0 then .tup [frNo, int (addE f w)] else .tup [frD { f with items := addI f.items w }, int 0]
end Go.Proofs.YtpmfmjgnhdfakaaGreatDoor
