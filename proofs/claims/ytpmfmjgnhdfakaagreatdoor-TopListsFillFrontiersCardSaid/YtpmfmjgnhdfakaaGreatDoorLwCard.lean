/-
  FROM A CONTRACT TO A LAW's STATEMENT: what comes in is read as data.
-/
import Derived.Test.YtpmfmjgnhdfakaaGreatDoorLwRun
import Derived.ProofKit
import Derived.OpenShut
import Derived.ShutString
import Derived.ChangeOld
import Derived.Below
import Derived.Deep.Slices
import Derived.Shelf.Vars
import Derived.HandedShaped
import Derived.SizedLaws
import Derived.Handed
import Derived.LaidLaws
import Derived.Lay
import Derived.LaidOnce
import Derived.SevenTiedAt
set_option linter.unusedSimpArgs false
set_option linter.unusedVariables false
namespace Go.Lw
open Go.RowKit Go.ChangeShapes Go.WideShapes Go.ChangeAt

abbrev here (w : World) : Nat → Prop := fun b => b < w.heap.size

/-- None of the weights of a datum is beyond the form's reach. -/
abbrev Wt {H : Type} (P : Program) (t : TypeId) (d : DataW H) : Prop := ∀ n ∈ d.weights P t, n ≤ reachBytes
theorem weights_mem_all {H : Type} {P : Program} {e : TypeId} : ∀ {ds : List (DataW H)} {d : DataW H}, d ∈ ds → ∀ n ∈ d.weights P e, n ∈ DataW.weightsAll P e ds
  | d0 :: ds, d, hd, n, hn => by
    simp only [DataW.weightsAll, List.mem_append]
    cases hd with
    | head => exact .inl hn
    | tail _ hd => exact .inr (weights_mem_all hd n hn)
  | [], _, hd, _, _ => by cases hd
theorem wt_arg {H : Type} {P : Program} {ts : List TypeId} {ds : List (DataW H)} (h : (DataW.weightsEach P ts ds).all (· ≤ reachBytes) = true) {j : Nat} {t : TypeId} {d : DataW H} (ht : ts[j]? = some t) (hd : ds[j]? = some d) : Wt P t d :=
  fun n hn => by simpa using List.all_eq_true.1 h n (DataW.weights_mem_each ht hd n hn)

/-- WHATEVER IS READ AT A TYPE, IS DATA OF A KIND: cells that read as 'e a', for some a with p. -/
def Opn {α : Type} (P : Program) (t : TypeId) (e : α → List D) (p : α → Prop) : Prop :=
  ∀ (H : Type) (enc : TypeId × Value → H) (w : World) (base : Nat) (spare : Nat → Bool) (held : Bool) (fuel : Nat) (cs : List Value) (x : DataW H × List MemPlace),
    DataW.trod enc P w base spare held fuel t cs = some x → Wt P t x.1 → ∃ a : α, p a ∧ (e a).length = cs.length ∧ ∀ (k : Nat) (d : D), (e a)[k]? = some d → ∃ v, cs[k]? = some v ∧ RdD w (here w) d v

theorem Opn.one {α : Type} {w : World} {a : α} {d : D} {v : Value} {p : α → Prop} {e : α → List D} (he : e a = [d]) (hp : p a) (hr : RdD w (here w) d v) :
    ∃ a : α, p a ∧ (e a).length = [v].length ∧ ∀ (k : Nat) (d : D), (e a)[k]? = some d → ∃ u, [v][k]? = some u ∧ RdD w (here w) d u :=
  ⟨a, hp, by rw [he]; rfl, fun k d' hk => by
    rw [he] at hk
    cases k with
    | zero => cases hk; exact ⟨v, rfl, hr⟩
    | succ k => simp at hk⟩

theorem opn_int {P : Program} {t : TypeId} {k : IntKind} (ht : P.underlying t = some (.int k)) : Opn P t (fun n : Int => [.lit (.int k n)]) (fun n => inR k n) := by
  intro H enc w base spare held fuel cs x h _
  obtain ⟨n, rfl, _, hw⟩ := DataW.trod_int ht h
  refine Opn.one (a := n) rfl ?_ (.lit _)
  simpa [Lit.wf, inR] using hw
theorem opn_bool {P : Program} {t : TypeId} (ht : P.underlying t = some .bool) : Opn P t (fun b : Bool => [.lit (.bool b)]) (fun _ => True) := by
  intro H enc w base spare held fuel cs x h _
  obtain ⟨b, rfl, _⟩ := DataW.trod_bool ht h
  exact Opn.one (a := b) rfl trivial (.lit _)
/-- A string, with the form's reach. -/
theorem opn_stringW {P : Program} {t : TypeId} (ht : P.underlying t = some .string) : Opn P t (fun s : ByteArray => [.lit (.string s)]) (fun s => s.size ≤ reachBytes) := by
  intro H enc w base spare held fuel cs x h hx
  obtain ⟨s, rfl, rfl, hs⟩ := DataW.trod_string ht h
  have h1 := hx s.data.toList.length (by simp [DataW.weights])
  exact Opn.one (a := s) rfl (by simpa using h1) (.lit _)

/-- The fields of a struct, one after the other. -/
def OpnF {α : Type} (P : Program) (fs : List Field) (off : Nat) (e : α → List D) (p : α → Prop) : Prop :=
  ∀ (H : Type) (enc : TypeId × Value → H) (w : World) (base : Nat) (spare : Nat → Bool) (held : Bool) (fuel : Nat) (cs : List Value),
    (∀ (i : Nat) (f : Field), fs[i]? = some f → ∃ x, DataW.trod enc P w base spare held fuel f.type ((cs.drop f.offset).take (P.cellsOf f.type)) = some x ∧ Wt P f.type x.1) →
    ∃ a : α, p a ∧ (off ≤ cs.length → (e a).length + off = cs.length) ∧ ∀ (k : Nat) (d : D), (e a)[k]? = some d → ∃ v, cs[off + k]? = some v ∧ RdD w (here w) d v

theorem opn_struct {α : Type} {P : Program} {t : TypeId} {fs : Array Field} {e : α → List D} {p : α → Prop} (ht : P.underlying t = some (.struct fs))
    (hf : ∀ (H : Type) (enc : TypeId × Value → H) (w : World) (base : Nat) (spare : Nat → Bool) (held : Bool) (fuel : Nat) (cs : List Value), cs.length = P.cellsOf t →
      (∀ (i : Nat) (f : Field), fs[i]? = some f → ∃ x, DataW.trod enc P w base spare held fuel f.type ((cs.drop f.offset).take (P.cellsOf f.type)) = some x ∧ Wt P f.type x.1) →
      ∃ a : α, p a ∧ (e a).length = cs.length ∧ ∀ (k : Nat) (d : D), (e a)[k]? = some d → ∃ v, cs[k]? = some v ∧ RdD w (here w) d v) : Opn P t e p := by
  intro H enc w base spare held fuel cs x h hwt
  obtain ⟨xs, n, rfl, rfl, hlen, hxl, hg⟩ := DataW.trod_struct ht h
  refine hf H enc w base spare held n cs hlen fun i f hi => ?_
  have hlt : i < xs.length := by rw [hxl]; exact (Array.getElem?_eq_some_iff.1 hi).1
  refine ⟨xs[i], by rw [hg i f hi]; exact List.getElem?_eq_getElem hlt, fun m hm => hwt m ?_⟩
  simp only [DataW.weights, ht]
  exact DataW.weights_mem_each (j := i) (t := f.type) (d := xs[i].1) (by simp [hi]) (by simp [List.getElem?_eq_getElem hlt]) m hm

/-- Two rows of cells, one behind the other. -/
theorem rows_append {w : World} {e1 e2 : List D} {cs : List Value} {n : Nat} (h1 : e1.length = n) (hn : n ≤ cs.length) (r1 : ∀ (k : Nat) (d : D), e1[k]? = some d → ∃ v, (cs.take n)[k]? = some v ∧ RdD w (here w) d v)
    (r2 : ∀ (k : Nat) (d : D), e2[k]? = some d → ∃ v, (cs.drop n)[k]? = some v ∧ RdD w (here w) d v) : ∀ (k : Nat) (d : D), (e1 ++ e2)[k]? = some d → ∃ v, cs[k]? = some v ∧ RdD w (here w) d v := by
  intro k d hk
  by_cases hkn : k < n
  · rw [List.getElem?_append_left (by omega)] at hk
    obtain ⟨v, h2, h3⟩ := r1 k d hk
    rw [List.getElem?_take, if_pos hkn] at h2
    exact ⟨v, h2, h3⟩
  · rw [List.getElem?_append_right (by omega)] at hk
    obtain ⟨v, h2, h3⟩ := r2 _ d hk
    rw [List.getElem?_drop, h1, show n + (k - n) = k by omega] at h2
    exact ⟨v, h2, h3⟩

/-- The fields from one on: laid one behind the other, from 'off' on. -/
def Flds {α : Type} (P : Program) (fs : List (TypeId × Nat)) (off total : Nat) (e : α → List D) (p : α → Prop) : Prop :=
  ∀ (H : Type) (enc : TypeId × Value → H) (w : World) (base : Nat) (spare : Nat → Bool) (held : Bool) (fuel : Nat) (cs : List Value), cs.length = total →
    (∀ (i : Nat) (q : TypeId × Nat), fs[i]? = some q → ∃ x, DataW.trod enc P w base spare held fuel q.1 ((cs.drop q.2).take (P.cellsOf q.1)) = some x ∧ Wt P q.1 x.1) →
    ∃ a : α, p a ∧ off + (e a).length = total ∧ ∀ (k : Nat) (d : D), (e a)[k]? = some d → ∃ v, (cs.drop off)[k]? = some v ∧ RdD w (here w) d v

theorem flds_nil {P : Program} {total : Nat} : Flds P [] total total (fun _ : Unit => []) (fun _ => True) :=
  fun H enc w base spare held fuel cs _ _ => ⟨(), trivial, by simp, fun k d hk => by simp at hk⟩
theorem flds_cons {α β : Type} {P : Program} {t : TypeId} {off total n : Nat} {fs : List (TypeId × Nat)} {e1 : α → List D} {p1 : α → Prop} {e2 : β → List D} {p2 : β → Prop} (hn : P.cellsOf t = n) (hle : off + n ≤ total)
    (h1 : Opn P t e1 p1) (h2 : Flds P fs (off + n) total e2 p2) : Flds P ((t, off) :: fs) off total (fun x : α × β => e1 x.1 ++ e2 x.2) (fun x => p1 x.1 ∧ p2 x.2) := by
  intro H enc w base spare held fuel cs hlen hf
  obtain ⟨x, hx, hxw⟩ := hf 0 _ rfl
  simp only [hn] at hx
  obtain ⟨a, pa, la, ra⟩ := h1 H enc w base spare held fuel _ x hx hxw
  obtain ⟨b, pb, lb, rb⟩ := h2 H enc w base spare held fuel cs hlen (fun i q hi => hf (i + 1) q (by simpa using hi))
  have hl : ((cs.drop off).take n).length = n := by simp; omega
  rw [hl] at la
  refine ⟨(a, b), ⟨pa, pb⟩, by simp; omega, ?_⟩
  refine rows_append la (by simp; omega) ra fun k d hk => ?_
  rw [List.drop_drop]
  exact rb k d hk
theorem opn_flds {α : Type} {P : Program} {t : TypeId} {fs : Array Field} {l : List (TypeId × Nat)} {total : Nat} {e : α → List D} {p : α → Prop} (ht : P.underlying t = some (.struct fs)) (hl : fs.toList.map (fun f => (f.type, f.offset)) = l)
    (hc : P.cellsOf t = total) (hf : Flds P l 0 total e p) : Opn P t e p := by
  refine opn_struct ht fun H enc w base spare held fuel cs hlen hg => ?_
  obtain ⟨a, pa, la, ra⟩ := hf H enc w base spare held fuel cs (hlen.trans hc) (fun i q hi => by
    subst hl
    rw [List.getElem?_map] at hi
    obtain ⟨f, hf, hq⟩ := Option.map_eq_some_iff.1 hi
    subst hq
    exact hg i f (by simpa using hf))
  exact ⟨a, pa, by omega, by simpa using ra⟩
theorem Opn.map {α β : Type} {P : Program} {t : TypeId} {e : α → List D} {p : α → Prop} {e' : β → List D} {p' : β → Prop} (h : Opn P t e p) (g : α → β) (he : ∀ a, p a → e' (g a) = e a) (hp : ∀ a, p a → p' (g a)) : Opn P t e' p' := by
  intro H enc w base spare held fuel cs x hx hxw
  obtain ⟨a, pa, la, ra⟩ := h H enc w base spare held fuel cs x hx hxw
  exact ⟨g a, hp a pa, by rw [he a pa]; exact la, by rw [he a pa]; exact ra⟩

theorem opn_slice {α : Type} {P : Program} {t u : TypeId} {n : Nat} {e : α → List D} {p : α → Prop} (dflt : α) (ht : P.underlying t = some (.slice u)) (hn : P.cellsOf u = n) (h0 : 0 < n) (h : Opn P u e p) :
    Opn P t (fun l : List α => [.sl l.length fun i => e (l.getD i dflt)]) (fun l => l.length ≤ maxLen ∧ ∀ x ∈ l, p x) := by
  intro H enc w base spare held fuel cs x hx hxw
  rcases Go.Deep.open_slice ht hx with ⟨rfl, _⟩ | ⟨a, len, cap, m, n', Dt, Pl, rfl, _, hlc, hcm, hm, rfl, hel⟩
  · exact Opn.one (a := []) rfl ⟨by simp, by simp⟩ (.sl 0 _ _ 0 0 0 0 (fun _ _ => undef) (Nat.le_refl _) (by simp [maxLen]) (fun h => by omega) (fun i hi => by omega) (fun i k hi => by omega) (fun i k d hi => by omega))
  · have hml : len ≤ m := by rw [hm]; split <;> omega
    have hex : ∀ i, i < len → ∃ b : α, p b ∧ (e b).length = n ∧ (∀ k, k < n → ∃ v, w.cell? (a.add (i * n + k)) = some v ∧ ∀ d, (e b)[k]? = some d → RdD w (here w) d v) := by
      intro i hi
      obtain ⟨cs', hc, ht'⟩ := hel i (by omega)
      rw [hn] at hc
      obtain ⟨_, hcl, hat⟩ := World.cells?_some hc
      obtain ⟨b, pb, lb, rb⟩ := h H enc w base spare held n' cs' _ ht' (fun k hk => hxw k (by
        simp only [DataW.weights, ht, List.mem_cons, List.mem_append]
        exact .inr (.inl (weights_mem_all (List.mem_map.2 ⟨i, List.mem_range.2 hi, rfl⟩) k hk))))
      refine ⟨b, pb, by omega, fun k hk => ?_⟩
      have hkl : k < (e b).length := by omega
      obtain ⟨v, h1, h2⟩ := rb k _ (List.getElem?_eq_getElem hkl)
      refine ⟨v, ?_, fun d hd => by rw [List.getElem?_eq_getElem hkl] at hd; cases hd; exact h2⟩
      rw [← Go.Deep.add_add, hat k hk, h1]
    let g : Nat → α := fun i => if hi : i < len then Classical.choose (hex i hi) else dflt
    have hgd : ∀ i (hi : i < len), g i = Classical.choose (hex i hi) := fun i hi => by simp [g, hi]
    have hg : ∀ i, i < len → p (g i) ∧ (e (g i)).length = n ∧ (∀ k, k < n → ∃ v, w.cell? (a.add (i * n + k)) = some v ∧ ∀ d, (e (g i))[k]? = some d → RdD w (here w) d v) := fun i hi => by
      rw [hgd i hi]; exact Classical.choose_spec (hex i hi)
    let l : List α := (List.range len).map g
    have hll : l.length = len := by simp [l]
    have hlg : ∀ i, i < len → l.getD i dflt = g i := fun i hi => by simp [l, List.getD, hi]
    refine Opn.one (a := l) (v := .slice (some a) len cap) (d := .sl l.length fun i => e (l.getD i dflt)) rfl ⟨by omega, fun x hx => ?_⟩ ?_
    · simp only [l, List.mem_map, List.mem_range] at hx
      obtain ⟨i, hi, rfl⟩ := hx
      exact (hg i hi).1
    · rw [hll]
      rcases Nat.eq_zero_or_pos len with h00 | hpos
      · subst h00
        exact .sl 0 _ _ cap 0 0 0 (fun _ _ => undef) (Nat.zero_le _) hcm (fun h => by omega) (fun i hi => by omega) (fun i k hi => by omega) (fun i k d hi => by omega)
      · obtain ⟨v0, hv0, _⟩ := (hg 0 hpos).2.2 0 h0
        have hspot : a.spot = none := by
          have e0 : a.add (0 * n + 0) = a := by simp [Addr.add]
          rw [e0] at hv0
          exact World.cell?_spot hv0
        obtain ⟨b, off, sp⟩ := a
        simp only at hspot
        subst hspot
        have hb : b < w.heap.size := by
          have e0 : (⟨b, off, none⟩ : Addr).add (0 * n + 0) = ⟨b, off, none⟩ := by simp [Addr.add]
          rw [e0] at hv0
          unfold World.cell? at hv0
          rcases Nat.lt_or_ge b w.heap.size with hlt | hge
          · exact hlt
          · simp [Array.getElem?_eq_none hge] at hv0
        refine .sl len _ _ cap n b off (fun i k => (w.cell? ⟨b, off + i * n + k, none⟩).getD undef) hlc hcm (fun _ => ⟨rfl, hb⟩) (fun i hi => ?_) (fun i k hi hk => ?_) (fun i k d hi hk => ?_)
        · rw [hlg i hi]; exact (hg i hi).2.1
        · obtain ⟨v, hv, _⟩ := (hg i hi).2.2 k hk
          rw [addr_add, ← Nat.add_assoc] at hv
          simp [hv]
        · rw [hlg i hi] at hk
          have hkn : k < n := by rw [← (hg i hi).2.1]; exact (List.getElem?_eq_some_iff.1 hk).1
          obtain ⟨v, hv, hd⟩ := (hg i hi).2.2 k hkn
          rw [addr_add, ← Nat.add_assoc] at hv
          simp only [hv, Option.getD_some]
          exact hd d hk

/-- An argument. -/
def OpnA {α : Type} (P : Program) (t : TypeId) (e : α → D) (p : α → Prop) : Prop :=
  ∀ (H : Type) (enc : TypeId × Value → H) (w : World) (b0 : Nat) (v : Value) (d : DataW H) (ps : List MemPlace), Value.okWide P w .any b0 t v → DataW.Trod enc P w 0 (fun _ => true) true t v d ps → Wt P t d → ∃ a : α, p a ∧ RdD w (here w) (e a) v

theorem okWide_cells {P : Program} {w : World} {b0 : Nat} {t : TypeId} {v : Value} (ha : eAgg P t = some false) (hv : Value.okWide P w .any b0 t v) : v.cells = #[v] := by
  unfold eAgg at ha
  unfold Value.okWide at hv
  cases hu : P.underlying t with
  | none => simp [hu] at ha
  | some d =>
    cases v with
    | agg cs =>
      rw [hu] at ha hv
      cases d <;> simp_all [Cell.okWide, Cell.ok]
    | _ => rfl

theorem opnA_cell {α : Type} {P : Program} {t : TypeId} {e : α → List D} {e' : α → D} {p : α → Prop} (h : Opn P t e p) (he : ∀ a, e a = [e' a]) (ha : eAgg P t = some false) : OpnA P t e' p := by
  rintro H enc w b0 v d ps hv ⟨fuel, ht⟩ hxw
  obtain ⟨a, pa, la, ra⟩ := h H enc w _ _ _ fuel _ _ ht hxw
  obtain ⟨u, h1, h2⟩ := ra 0 (e' a) (by rw [he]; rfl)
  rw [okWide_cells ha hv] at h1
  cases h1
  exact ⟨a, pa, h2⟩
theorem opnA_struct {α : Type} {P : Program} {t : TypeId} {fs : Array Field} {e : α → List D} {p : α → Prop} (h : Opn P t e p) (hs : P.underlying t = some (.struct fs)) : OpnA P t (fun a => .agg (e a)) p := by
  rintro H enc w b0 v d ps hv ⟨fuel, ht⟩ hxw
  obtain ⟨cs, rfl, _⟩ := okWide_struct hs hv
  obtain ⟨a, pa, la, ra⟩ := h H enc w _ _ _ fuel _ _ ht hxw
  simp only [Value.cells, Array.length_toList] at la ra
  refine ⟨a, pa, .agg (e a) cs (fun k => cs.getD k undef) la.symm (fun i hi => ?_) (fun i d hd => ?_)⟩
  · have : i < cs.size := by omega
    simp [Array.getElem?_eq_getElem this]
  · obtain ⟨u, h1, h2⟩ := ra i d hd
    have : cs.getD i undef = u := by
      rw [Array.getElem?_toList] at h1
      simp [Array.getD_eq_getD_getElem?, h1]
    rw [this]; exact h2

theorem trodAll_stays {H : Type} {enc : TypeId × Value → H} {P : Program} (hl : laidOutB P = true) {W W' : World} (hb : Below W.heap.size W W') : ∀ {ts : List TypeId} {vs : List Value} {ds : List (DataW H)} {ps : List MemPlace},
    (∀ t ∈ ts, P.readableRec t = true ∧ t < P.types.size) → DataW.TrodAll enc P W 0 (fun _ => true) true ts vs ds ps → DataW.TrodAll enc P W' 0 (fun b => decide (b < W.heap.size)) true ts vs ds ps
  | [], [], [], ps, _, h => h
  | t :: ts, v :: vs, d :: ds, ps, hr, h => by
    obtain ⟨p, q, h1, h2, rfl⟩ := h
    have lt : ∀ x ∈ p, x.block < W.heap.size := by obtain ⟨m, hm⟩ := h1; exact DataW.trod_lt m _ _ _ hm
    exact ⟨p, q, Below.trod hl (hr t List.mem_cons_self).1 (hr t List.mem_cons_self).2 h1 hb lt, trodAll_stays hl hb (fun u hu => hr u (List.mem_cons_of_mem _ hu)) h2, rfl⟩
  | [], _ :: _, _, _, _, h => by cases h
  | [], [], _ :: _, _, _, h => by cases h
  | _ :: _, [], _, _, _, h => by cases h
  | _ :: _, _ :: _, [], _, _, h => by cases h

theorem trodAll_length {H : Type} {enc : TypeId × Value → H} {P : Program} {W : World} {b : Nat} {sp : Nat → Bool} {hd : Bool} : ∀ {ts : List TypeId} {vs : List Value} {ds : List (DataW H)} {ps : List MemPlace},
    DataW.TrodAll enc P W b sp hd ts vs ds ps → ds.length = ts.length
  | [], [], [], _, _ => rfl
  | t :: ts, v :: vs, d :: ds, ps, h => by
    obtain ⟨p, q, _, h2, _⟩ := h
    simp [trodAll_length h2]
  | [], _ :: _, _, _, h => by cases h
  | [], [], _ :: _, _, h => by cases h
  | _ :: _, [], _, _, h => by cases h
  | _ :: _, _ :: _, [], _, h => by cases h

/-- Are the package-level variables such that a world's shape tells what 'Std' asks? -/
def stdB (P : Program) : Bool := (List.range P.globals.size).all fun g =>
  match ((begin P (fun _ _ => 0) default).world.heap[g]?).bind Obj.row? with
  | some (zero, t) => ((P.globals[g]?).map (·.type) == some t) && (match P.underlying t with
    | some (.int _) => zero.size == 1 && P.buildable t && (P.cellTypes P.depth t == some [t])
    | _ => true)
  | none => false
theorem std_of_shaped {P : Program} {w : World} (hB : stdB P = true) (h : w.ShapedOpen P) (hE : stdErr P w) : Std P w := by
  have key : ∀ g, g < P.globals.size → ∃ zero t, ((begin P (fun _ _ => 0) default).world.heap[g]?).bind Obj.row? = some (zero, t) ∧ (P.globals[g]?).map (·.type) = some t ∧
      ∀ k, P.underlying t = some (.int k) → zero.size = 1 ∧ P.buildable t = true ∧ P.cellTypes P.depth t = some [t] := by
    intro g hg
    have hb := List.all_eq_true.1 hB g (by simpa using hg)
    revert hb
    cases hr : ((begin P (fun _ _ => 0) default).world.heap[g]?).bind Obj.row? with
    | none => intro hb; cases hb
    | some x =>
      obtain ⟨zero, t⟩ := x
      intro hb
      simp only [Bool.and_eq_true, beq_iff_eq] at hb
      refine ⟨zero, t, rfl, hb.1, fun k hk => ?_⟩
      have h2 := hb.2
      rw [hk] at h2
      simp only [Bool.and_eq_true, beq_iff_eq] at h2
      exact ⟨h2.1.1, h2.1.2, h2.2⟩
  refine ⟨?_, fun g t k hg hk => ?_, hE⟩
  · rcases Nat.eq_zero_or_pos P.globals.size with h0 | h0
    · omega
    · obtain ⟨zero, t, h1, _⟩ := key (P.globals.size - 1) (by omega)
      obtain ⟨cs, h2, _⟩ := h.1 _ zero t (by omega) h1
      have := (Array.getElem?_eq_some_iff.1 h2).1
      omega
  · have hlt : g < P.globals.size := by
      rcases Nat.lt_or_ge g P.globals.size with h' | h'
      · exact h'
      · rw [Array.getElem?_eq_none h'] at hg; cases hg
    obtain ⟨zero, t', h1, h2, h3⟩ := key g hlt
    rw [h2] at hg
    cases hg
    obtain ⟨h4, h5, h6⟩ := h3 k hk
    exact Go.Proofs.cell_of_shapedOpen_int h hlt h1 h4 h5 h6 hk
/-- WHAT A LAW's CONTRACT GIVES: the row's step. -/
theorem law_contract {H : Type} {enc : TypeId × Value → H} {P : Program} {fid : FuncId} {f : Func} {s : ChangeSpec} {tb : TypeId} (laid : laidOutB P = true) (hrd : ∀ t ∈ f.params.toList, P.readableRec t = true ∧ t < P.types.size)
    (hres : f.resultTypes = #[tb]) (hbool : P.underlying tb = some .bool) (hvars : s.vars = []) (hfn : ∀ ds : List (DataW H), ds.length = f.params.toList.length → s.fn H (ds ++ []) = { results := [.lit (.bool true)], args := ds })
    {W : World} {args : Array Value} {ds gs : List (DataW H)} {before : List MemPlace} (hW : DataW.Whole enc P f.params.toList s.vars false W args.toList ds gs before)
    {dargs : List D} (hstd : Std P W) (hopen : ArgsRd W (here W) dargs args) (hok : FnOk P fid dargs (.lit (.bool true))) :
    Calls P fid args W fun e W' => ∃ v, e = .returned v ∧ s.post enc P f false true false false W args v W' := by
  refine (hok.2 (here W) W args (fun k hk => hk) hstd hopen).mono fun e W' ⟨v, he, bel, hr⟩ => ?_
  cases hr
  refine ⟨_, he, ?_⟩
  have hW' := hW
  obtain ⟨p, q, hA, hV, rfl, _, _⟩ := hW
  rw [hvars] at hV
  obtain ⟨rfl, rfl⟩ := trodVars_none hV
  have hspec := hfn ds (trodAll_length hA)
  refine ⟨ds, [], p ++ [], [], p, [], hW', ?_, ?_, ?_, bel.frame _, fun h => by cases h⟩
  · rw [hspec, hres]
    exact trodAll_mk1 (shut_bool hbool _)
  · rw [hspec]
    exact trodAll_stays laid bel hrd hA
  · rw [hspec, hvars]
    rfl
/-- Arguments, one after the other. -/
inductive ArgsL (w : World) (ok : Nat → Prop) : List D → List Value → Prop where
  | nil : ArgsL w ok [] []
  | cons {d : D} {v : Value} {ds : List D} {vs : List Value} (h : RdD w ok d v) (t : ArgsL w ok ds vs) : ArgsL w ok (d :: ds) (v :: vs)
theorem ArgsL.rd {w : World} {ok : Nat → Prop} {ds : List D} {vs : List Value} (h : ArgsL w ok ds vs) : ArgsRd w ok ds ⟨vs⟩ := by
  induction h with
  | nil => exact ⟨rfl, fun i d hi => by simp at hi⟩
  | cons h _ ih =>
    refine ⟨by simpa using ih.1, fun i d hi => ?_⟩
    cases i with
    | zero => cases hi; exact ⟨_, by simp, h⟩
    | succ i =>
      obtain ⟨v, h1, h2⟩ := ih.2 i d (by simpa using hi)
      exact ⟨v, by simpa using h1, h2⟩
end Go.Lw
/-
  A LAW's ROW THAT LISTS PACKAGE-LEVEL VARIABLES: from a contract to the row, with the world's shape at hand.
-/
set_option linter.unusedSimpArgs false
set_option linter.unusedVariables false
namespace Go.Lw
open Go.RowKit Go.ChangeShapes Go.WideShapes Go.ChangeAt
variable {H : Type} {enc : TypeId × Value → H}

theorem handed_and_shaped {a : Assume} {C : Checked} {os : Os} {f : FuncId} {fn : Func} {s : ChangeSpec} {conds : List PathCond} {apart fresh handsOn again : Bool} {X : World → Array Value → Prop}
    (hX : ∀ (w w' : World) (args : Array Value), w.heap = w'.heap → X w args → X w' args)
    (own : ownKnob C.prog.godebug = none) (started : os.Started) (noInit : C.prog.inits.idxOf? f = none) (hfn : C.prog.funcs[f]? = some fn)
    (witness : ∃ (w : World) (tape : Tape) (i : Input), w.os = os ∧ (w.forCall tape i).Shaped C.prog ∧ i.vars = [] ∧ Input.okWide C.prog (w.forCall tape i) .any w.heap.size f i ∧
      ((s.pre enc C.prog fn conds apart (w.forCall tape i).memory i.args ∧ X (w.forCall tape i).memory i.args) ∧ sizedMet enc C.prog fn (OpenSpec.ofChange s) apart (w.forCall tape i).memory i.args) ∧ a.holds C.prog (lone (Frame.enter C.prog f i.args .normal) [] (w.forCall tape i)))
    (contract : ∀ (W : World) (base : Nat) (args : Array Value) (ds gs : List (DataW H)) (before : List MemPlace),
      (∀ (j : Nat) t v, fn.params[j]? = some t → args[j]? = some v → Value.okWide C.prog W .any base t v) →
      DataW.Whole enc C.prog fn.params.toList s.vars apart W args.toList ds gs before →
      (DataW.weightsEach C.prog (fn.params.toList ++ s.plain.varTypes C.prog) (ds ++ gs)).all (· ≤ reachBytes) = true → X W args → W.ShapedOpen C.prog →
      Calls C.prog f args W fun e W' => ∃ v, e = .returned v ∧ s.post enc C.prog fn apart fresh handsOn again W args v W') :
    ReturnsInHanded a C os f .any (fun w args => (s.pre enc C.prog fn conds apart w args ∧ X w args) ∧ sizedMet enc C.prog fn (OpenSpec.ofChange s) apart w args) (s.post enc C.prog fn apart fresh handsOn again) := by
  refine returnsInHanded_of_calls own started noInit witness ?_
  intro w tape i _ hsh _ hok hpre hholds
  obtain ⟨_, _, _, fn', hfn', _, _, _, _, hval⟩ := hok
  have e : fn' = fn := Option.some.inj (hfn'.symm.trans hfn)
  subst e
  obtain ⟨⟨⟨ds, gs, before, hw, hc⟩, hx⟩, hz⟩ := hpre
  have hw' := DataW.Whole.of_heap (w' := w.forCall tape i) (by rfl) hw
  refine (contract (w.forCall tape i) w.heap.size i.args ds gs before hval hw' (hz.weights hw) (hX _ _ _ (by rfl) hx) hsh).mono fun e W' ⟨v, he, hp⟩ => ?_
  subst he
  exact ChangeSpec.post_blind hp
/-- A listed variable of an interface's type that holds an error. -/
theorem err_of_laid {P : Program} {n nm : String} {d : DataW Unit} {r : List (String × DataW Unit)} {W : World} {g : Nat} {ti : TypeId} {ms : Array (String × TypeId)}
    (h : laidMet P ((n, .iface nm d) :: r) W) (hg : P.globalNamed n = some g) (ht : (P.globals[g]?).map (·.type) = some ti) (hi : P.underlying ti = some (.interface ms)) : ∃ te pe, W.cell? ⟨g, 0, none⟩ = some (.iface te pe) := by
  obtain ⟨ps, ⟨g0, t0, cs0, f0, p0, q0, hg0, ht0, hv0, hd0, _, e0⟩, _, _⟩ := h
  obtain rfl := Option.some.inj (hg.symm.trans hg0)
  obtain rfl := Option.some.inj (ht.symm.trans ht0)
  subst e0
  obtain ⟨l0⟩ := cs0
  cases f0 with
  | zero => simp [DataW.trod] at hd0
  | succ k =>
    match l0, hd0, hv0 with
    | [], hd0, _ => simp [DataW.trod, hi] at hd0
    | [E], hd0, hv0 =>
      cases E with
      | iface u v => exact ⟨u, v, by simpa using World.var?_cell hg0 hv0 0⟩
      | _ => simp [DataW.trod, hi] at hd0
    | _ :: _ :: _, hd0, _ => simp [DataW.trod, hi] at hd0
end Go.Lw
