/-
  FRONTIER: Add: rows of cells (program). (WITH run_drawN.)
-/
import Derived.Test.YtpmfmjgnhdfakaaGreatDoorFmC
import Derived.Test.YtpmfmjgnhdfakaaGreatDoorFnD
import Derived.Test.YtpmfmjgnhdfakaaGreatDoorLwPh
import Derived.Test.YtpmfmjgnhdfakaaGreatDoorOwnD
set_option linter.unusedSimpArgs false
set_option linter.unusedVariables false
namespace Go.Proofs.YtpmfmjgnhdfakaaGreatDoor
open Go.Lw Go.RowKit
set_option maxRecDepth 100000
set_option maxHeartbeats 8000000

theorem insW_cells (I : List Wnt) (w : Wnt) (p : Nat) : (fun i => (List.take p (I.map wntCells) ++ wntCells w :: List.drop p (I.map wntCells))[i]?.getD [str [], int 0, int 0]) = fun i => [str (wntAt (I.take p ++ w :: I.drop p) i).1, int (wntAt (I.take p ++ w :: I.drop p) i).2.1, int (wntAt (I.take p ++ w :: I.drop p) i).2.2] := by
  have e : List.take p (I.map wntCells) ++ wntCells w :: List.drop p (I.map wntCells) = (I.take p ++ w :: I.drop p).map wntCells := by simp
  rw [e]
  funext i
  rw [List.getElem?_map, row_w]
theorem min_if (a b : Int) : (if b < a then b else a) = min a b := by split <;> omega
theorem set_cells (I : List Wnt) (w : Wnt) (p : Nat) (hp : p < I.length) (c : List D) (hc : c = wntCells (joinW (wntAt I p) w)) : (fun i => ((I.map wntCells).set p c)[i]?.getD [str [], int 0, int 0]) = fun i => [str (wntAt (I.set p (joinW (wntAt I p) w)) i).1, int (wntAt (I.set p (joinW (wntAt I p) w)) i).2.1, int (wntAt (I.set p (joinW (wntAt I p) w)) i).2.2] := by
  subst hc
  rw [← List.map_set]
  funext i
  rw [List.getElem?_map, row_w]
end Go.Proofs.YtpmfmjgnhdfakaaGreatDoor
/-
  OPERATIONS THAT LEAVE THE MEMORY AS IT IS: what all that writes waits for may be read at once.
-/
set_option linter.unusedSimpArgs false
set_option linter.unusedVariables false
namespace Go.Lw
open Go Go.RowKit

def calmS {α : Type} : Sem α → Prop
  | .pure _ => True
  | .load _ _ k => ∀ v, calmS (k v)
  | .shape _ k => ∀ v, calmS (k v)
  | .frozen _ k => ∀ v, calmS (k v)
  | .getObj _ k => ∀ v, calmS (k v)
  | .choose _ k => ∀ v, calmS (k v)
  | .program k => ∀ v, calmS (k v)
  | .mark _ k => calmS k
  | .halt _ => True
  | _ => False
theorem calm_run {α : Type} {P : Program} : ∀ {s : Sem α} {w w' : World} {r : α}, calmS s → s.run P w = .ok r w' → w'.heap = w.heap
  | .pure a, w, w', r, _, h => by simp only [Sem.run] at h; cases h; rfl
  | .load m a k, w, w', r, hc, h => by
    simp only [Sem.run] at h
    split at h
    · exact calm_run (hc _) h
    · split at h
      · exact calm_run (hc _) h
      · cases h
  | .shape a k, w, w', r, hc, h => by simp only [Sem.run] at h; exact calm_run (hc _) h
  | .frozen a k, w, w', r, hc, h => by simp only [Sem.run] at h; exact calm_run (hc _) h
  | .getObj a k, w, w', r, hc, h => by
    simp only [Sem.run] at h
    split at h
    · cases h
    · exact calm_run (hc _) h
    · cases h
  | .choose q k, w, w', r, hc, h => by
    simp only [Sem.run] at h
    split at h
    · exact calm_run (hc _) h
    · have := calm_run (hc _) h
      exact this
  | .program k, w, w', r, hc, h => by simp only [Sem.run] at h; exact calm_run (hc _) h
  | .mark m k, w, w', r, hc, h => by simp only [Sem.run] at h; exact calm_run (s := k) hc h
  | .halt x, w, w', r, _, h => by simp only [Sem.run] at h; cases h
  | .store .., _, _, _, hc, _ => hc.elim
  | .new .., _, _, _, hc, _ => hc.elim
  | .freeze .., _, _, _, hc, _ => hc.elim
  | .setObj .., _, _, _, hc, _ => hc.elim
  | .sys .., _, _, _, hc, _ => hc.elim
theorem calm_bind {α β : Type} {f : α → Sem β} (hf : ∀ a, calmS (f a)) : ∀ {s : Sem α}, calmS s → calmS (s >>= f)
  | .pure a, _ => hf a
  | .load m a k, hc => fun v => calm_bind hf (hc v)
  | .shape a k, hc => fun v => calm_bind hf (hc v)
  | .frozen a k, hc => fun v => calm_bind hf (hc v)
  | .getObj a k, hc => fun v => calm_bind hf (hc v)
  | .choose q k, hc => fun v => calm_bind hf (hc v)
  | .program k, hc => fun v => calm_bind hf (hc v)
  | .mark m k, hc => calm_bind (s := k) hf hc
  | .halt x, _ => trivial
  | .store .., hc => hc.elim
  | .new .., hc => hc.elim
  | .freeze .., hc => hc.elim
  | .setObj .., hc => hc.elim
  | .sys .., hc => hc.elim
theorem calm_program : calmS program := fun _ => trivial
theorem calm_typeInfo (t : TypeId) : calmS (typeInfo t) := by
  unfold typeInfo
  refine calm_bind (fun p => ?_) calm_program
  split <;> exact True.intro
theorem calm_underlying (t : TypeId) : calmS (underlying t) := by
  unfold underlying
  refine calm_bind (fun p => ?_) calm_program
  split <;> exact True.intro
theorem calm_sizeOf (t : TypeId) : calmS (sizeOf t) := by
  unfold sizeOf
  refine calm_bind (fun p => ?_) (calm_typeInfo t)
  exact True.intro
theorem calm_isAgg (t : TypeId) : calmS (isAgg t) := by
  unfold isAgg
  refine calm_bind (fun p => ?_) (calm_underlying t)
  split <;> exact True.intro
theorem calm_loadFrom (a : Addr) : ∀ (n i : Nat) (acc : Array Value), calmS (loadCellsFrom a i n acc)
  | 0, i, acc => True.intro
  | n + 1, i, acc => by
    unfold loadCellsFrom
    exact calm_bind (fun v => calm_loadFrom a n (i + 1) _) (fun v => True.intro)
theorem calm_loadVar (t : TypeId) (a : Addr) : calmS (loadVar t a) := by
  unfold loadVar
  refine calm_bind (fun b => ?_) (calm_isAgg t)
  split
  · refine calm_bind (fun n => ?_) (calm_sizeOf t)
    refine calm_bind (fun c => ?_) (calm_loadFrom a n 0 _)
    exact True.intro
  · exact fun v => True.intro
theorem calm_sureAddr (v : Value) : calmS (Instr.sureAddr v) := by unfold Instr.sureAddr; split <;> exact True.intro
theorem calm_loadAt (t : TypeId) (v : Value) : calmS (Instr.loadAt t v) := by
  unfold Instr.loadAt
  exact calm_bind (fun a => calm_loadVar t a) (calm_sureAddr v)
theorem calm_asIntOf (v : Value) : calmS (asIntOf v) := by unfold asIntOf; split <;> exact True.intro
theorem calm_bounds {α : Type} (k : IntKind) (x y : Int) (c : BoundsCode) : calmS (boundsPanic k x y c : Sem α) := by
  unfold boundsPanic
  have h : ∀ b : Bool, calmS (runtimePanic (α := α) (.bounds (IntKind.i64.wrap x) y b c)) := fun b p => True.intro
  simp only
  split
  · exact calm_bind h (fun v => True.intro)
  · exact calm_bind h True.intro
theorem calm_indexAt (t : TypeId) (x y : Value) : calmS (Instr.indexAt t x y) := by
  unfold Instr.indexAt
  refine calm_bind (fun ki => ?_) (calm_asIntOf y)
  obtain ⟨k, i⟩ := ki
  refine calm_bind (fun d => ?_) (calm_underlying t)
  simp only
  repeat' (first | exact True.intro | exact calm_underlying _ | exact calm_sizeOf _ | exact calm_sureAddr _ | exact calm_bounds _ _ _ _ | refine calm_bind (fun _ => ?_) ?_ | split | intro _)
theorem calm_noView (a : Addr) : calmS (noView a) := by
  unfold noView
  repeat' (first | exact True.intro | exact calm_program | refine calm_bind (fun _ => ?_) ?_ | split | intro _)
theorem calm_byteOf (a : Addr) : calmS (byteOf a) := by
  unfold byteOf
  have hs : calmS (shape a.block) := fun v => True.intro
  repeat' (first | exact True.intro | exact calm_program | exact calm_noView _ | exact hs | refine calm_bind (fun _ => ?_) ?_ | split | intro _ | dsimp only)
theorem calm_fieldAt (s : TypeId) (x : Value) (f : Nat) : calmS (Instr.fieldAt s x f) := by
  unfold Instr.fieldAt fieldPlace partAt
  repeat' (first | exact True.intro | exact calm_underlying _ | exact calm_sizeOf _ | exact calm_sureAddr _ | exact calm_byteOf _ | refine calm_bind (fun _ => ?_) ?_ | split | intro _)
theorem calm_min2 (x y : Value) : calmS (Builtin.min2 x y) := by
  unfold Builtin.min2
  split
  · exact trivial
  · split
    · exact fun v => trivial
    · exact trivial
    · exact trivial
    · exact trivial
  · refine calm_bind (fun v => ?_) True.intro
    refine calm_bind (fun b => ?_) ?_
    · exact True.intro
    · unfold asBool; split <;> exact True.intro
  all_goals exact trivial
theorem calm_max2 (x y : Value) : calmS (Builtin.max2 x y) := by
  unfold Builtin.max2
  split
  · exact trivial
  · split
    · exact fun v => trivial
    · exact trivial
    · exact trivial
    · exact trivial
  · refine calm_bind (fun v => ?_) True.intro
    refine calm_bind (fun b => ?_) ?_
    · exact True.intro
    · unfold asBool; split <;> exact True.intro
  all_goals exact trivial
theorem calm_foldM {f : Value → Value → Sem Value} (hf : ∀ x y, calmS (f x y)) : ∀ (l : List Value) (x : Value), calmS (l.foldlM f x)
  | [], x => trivial
  | y :: l, x => by
    rw [List.foldlM_cons]
    exact calm_bind (fun z => calm_foldM hf l z) (hf x y)
/-- Operations of the kinds that are calm. -/
def calmB (o : Oper) : Bool := match o.op with
  | .move _ | .assign _ | .load _ _ | .fieldAddr _ _ _ | .indexAddr _ _ _ => true
  | .call c => match c.callee with | .builtin .min => true | .builtin .max => true | _ => false
  | _ => false
theorem calm_op {o : Oper} (h : calmB o = true) {P : Program} {ev : Operand → Value} {w w' : World} {n : Next} (hr : (execOp ev o).run P w = .ok n w') : w'.heap = w.heap ∧ ∃ u, n = .value u := by
  have val : ∀ {s : Sem Value}, calmS s → (do pure (Next.value (← s)) : Sem Next).run P w = .ok n w' → w'.heap = w.heap ∧ ∃ u, n = .value u := fun {s} hs h2 => by
    rw [Sem.run_bind] at h2
    cases h3 : s.run P w with
    | ok v w1 =>
      rw [h3] at h2
      simp only [Result.andThen_ok, Sem.run_pure] at h2
      cases h2
      exact ⟨calm_run hs h3, v, rfl⟩
    | halt x w1 =>
      rw [h3] at h2
      cases h2
  unfold calmB at h
  split at h
  · rename_i x ho
    simp only [execOp, ho, Sem.run_pure] at hr
    cases hr
    exact ⟨rfl, _, rfl⟩
  · rename_i x ho
    simp only [execOp, ho, Sem.run_pure] at hr
    cases hr
    exact ⟨rfl, _, rfl⟩
  · rename_i t x ho
    simp only [execOp, ho] at hr
    exact val (calm_loadAt _ _) hr
  · rename_i t x f ho
    simp only [execOp, ho] at hr
    exact val (calm_fieldAt _ _ _) hr
  · rename_i t x f ho
    simp only [execOp, ho] at hr
    exact val (calm_indexAt _ _ _) hr
  · rename_i c ho
    split at h
    · rename_i hcal
      simp only [execOp, ho, resolve, hcal, Sem.run_bind, Sem.run_pure, Result.andThen_ok, invoke, builtin] at hr
      refine val (s := Builtin.min_ c.argTypes o.type (c.args.map ev)) ?_ (by rw [Sem.run_bind]; exact hr)
      unfold Builtin.min_
      split
      · exact trivial
      · exact calm_foldM calm_min2 _ _
    · rename_i hcal
      simp only [execOp, ho, resolve, hcal, Sem.run_bind, Sem.run_pure, Result.andThen_ok, invoke, builtin] at hr
      refine val (s := Builtin.max_ c.argTypes o.type (c.args.map ev)) ?_ (by rw [Sem.run_bind]; exact hr)
      unfold Builtin.max_
      split
      · exact trivial
      · exact calm_foldM calm_max2 _ _
    · cases h
  · cases h

section
variable {P : Program} {ops : Array Oper} {Q : Exit → Act → World → Prop}
/-- In this memory the operation gives this value. -/
def YieldsAt (P : Program) (ops : Array Oper) (o : Oper) (v : Value) (a : Act) (H : Array Obj) : Prop :=
  (Region.wanted o (yielded ops a.tmps) = true ∧ ∀ w : World, w.heap = H → (execOp a.eval o).run P w = .ok (.value v) w) ∨
  (Region.wanted o (yielded ops a.tmps) = false ∧ v = undef)
theorem YieldsAt.of_same {o : Oper} {v : Value} {a a' : Act} {H : Array Obj} (hy : YieldsAt P ops o v a H) (he : execOp a'.eval o = execOp a.eval o)
    (hw : Region.wanted o (yielded ops a'.tmps) = Region.wanted o (yielded ops a.tmps)) : YieldsAt P ops o v a' H := by
  unfold YieldsAt at *
  rw [he, hw]
  exact hy
theorem YieldsAt.wpOp {i : Nat} {o : Oper} {v : Value} {a : Act} (hi : ops[i]? = some o) {K : Act → World → Prop} {w : World} (hy : YieldsAt P ops o v a w.heap) (h : K (a.put o.dst v) w) : wpOp P ops Q i K a w := by
  unfold Go.wpOp
  simp only [hi]
  rcases hy with ⟨hw, hv⟩ | ⟨hw, rfl⟩
  · simp only [hw, if_true, Oper.wp, hv w rfl, Oper.upon]; exact .inl h
  · simp only [hw, Bool.false_eq_true, if_false]; exact h
theorem wpOp_putW {j : Nat} {oi oj : Oper} {v : Value} (hj : ops[j]? = some oj) (hap : oi.apart ops oj = true) (hcalm : calmB oj = true)
    (hsi : ∀ cs b, oi.op ≠ .select cs b) (hsj : ∀ cs b, oj.op ≠ .select cs b)
    (hQ : ∀ c a w, Q (.panic c) (a.put oi.dst v) w → Q (.panic c) a w) {K : Act → World → Prop} {a : Act} {w : World}
    (hy : YieldsAt P ops oi v a w.heap) (h : wpOp P ops Q j K (a.put oi.dst v) w) :
    wpOp P ops Q j (fun a' w' => YieldsAt P ops oi v a' w'.heap ∧ K (a'.put oi.dst v) w') a w := by
  obtain ⟨h1, h2, h3⟩ := Oper.apart_spec hap
  have keep : ∀ (a : Act) (H : Array Obj), YieldsAt P ops oi v a H → ∀ u, YieldsAt P ops oi v (a.put oj.dst u) H := fun a H hy u =>
    hy.of_same (execOp_put oi hsi a oj.dst u h3) (wanted_put oi a oj.dst u h3)
  unfold wpOp at *
  simp only [hj] at *
  rw [wanted_put oj a oi.dst v h1] at h
  split
  · rename_i hw
    simp only [hw, if_true] at h
    rcases h with h | ⟨hasks, hlets⟩
    case inr => exact .inr ⟨by unfold Oper.asks at *; rw [execOp_put oj hsj a oi.dst v h1] at hasks; exact hasks, hlets⟩
    refine .inl ?_
    unfold Oper.wp at *
    rw [execOp_put oj hsj a oi.dst v h1] at h
    generalize hr : (execOp a.eval oj).run P w = r at *
    cases r with
    | ok n w' =>
      obtain ⟨hh, u, rfl⟩ := calm_op hcalm hr
      simp only [Oper.upon] at h ⊢
      exact ⟨hh ▸ keep a _ hy u, by rw [← Act.put_comm a v u h2]; exact h⟩
    | halt x w' =>
      cases x <;> simp only [Oper.upon] at h ⊢
      case panic u => exact hQ _ _ _ h
  · rename_i hw
    simp only [hw] at h
    exact ⟨keep a _ hy _, by rw [← Act.put_comm a v undef h2]; exact h⟩
/-- L: the operation, and all that waits for it. Nothing of it has been done; all else that is left is calm and keeps away from it. -/
def lateB (ops : Array Oper) (L : List Nat) (i : Nat) (listed : Array Bool) : Bool :=
  (L.contains i && L.all fun k => decide (k < ops.size)) && (List.range ops.size).all (fun j => match ops[j]? with
    | some oj => j == i || (if L.contains j then !listed.getD j false && oj.after.any (fun e => Region.binds .any e && (e.on == i || L.contains e.on))
        else listed.getD j true || (calmB oj && (match ops[i]? with | some oi => oi.apart ops oj | none => false)))
    | none => true) && !listed.getD i false
theorem wpAny_calm {i : Nat} {oi : Oper} {v : Value} (L : List Nat) (hi : ops[i]? = some oi) (hsel : ∀ (j : Nat) (o : Oper) cs b, ops[j]? = some o → o.op ≠ .select cs b)
    (hQ : ∀ c a w, Q (.panic c) (a.put oi.dst v) w → Q (.panic c) a w) :
    ∀ (fuel : Nat) (listed : Array Bool) (a : Act) (w : World), lateB ops L i listed = true → i ∈ Region.ready .any ops listed → YieldsAt P ops oi v a w.heap →
      wpAny P .any ops Q fuel (listed.setIfInBounds i true) (a.put oi.dst v) w → wpAny P .any ops Q (fuel + 1) listed a w := by
  have key : ∀ {listed : Array Bool} {j : Nat} {oj : Oper}, lateB ops L i listed = true → j ∈ Region.ready .any ops listed → ops[j]? = some oj → j ≠ i → L.contains j = false ∧ calmB oj = true ∧ oi.apart ops oj = true := by
    intro listed j oj hl hj hoj hne
    simp only [lateB, Bool.and_eq_true, List.all_eq_true, List.mem_range] at hl
    obtain ⟨⟨⟨_, hL⟩, hall⟩, hli⟩ := hl
    have hlt := (Array.getElem?_eq_some_iff.1 hoj).1
    have h1 := hall j hlt
    obtain ⟨hun, o, ho, hdeps⟩ := mem_ready.1 hj
    obtain rfl : o = oj := Option.some.inj (ho.symm.trans hoj)
    simp only [hoj, hi, Bool.or_eq_true, beq_iff_eq, hne, false_or] at h1
    cases hLj : L.contains j with
    | false =>
      rw [hLj] at h1
      simp only [Bool.false_eq_true, if_false, hun, Bool.or_eq_true, false_or, Bool.and_eq_true] at h1
      exact ⟨rfl, h1⟩
    | true =>
      exfalso
      rw [hLj] at h1
      simp only [if_true, Bool.and_eq_true, Bool.not_eq_true'] at h1
      obtain ⟨e, he, hb⟩ := Array.any_eq_true'.1 h1.2
      simp only [Bool.and_eq_true, Bool.or_eq_true, beq_iff_eq] at hb
      have hd := hdeps e he hb.1
      rcases hb.2 with h2 | h2
      · rw [h2] at hd
        simp [hd] at hli
      · by_cases h3 : e.on = i
        · rw [h3] at hd
          simp [hd] at hli
        · rcases Nat.lt_or_ge e.on ops.size with h4 | h4
          · have h5 := hall e.on h4
            rw [Array.getElem?_eq_getElem h4] at h5
            simp only [Bool.or_eq_true, beq_iff_eq, h3, false_or, h2, if_true, Bool.and_eq_true, Bool.not_eq_true'] at h5
            rw [hd] at h5
            cases h5.1
          · have h6 := hL e.on (by simpa using h2)
            simp only [decide_eq_true_eq] at h6
            omega
  intro fuel
  induction fuel with
  | zero =>
    intro listed a w hl hr hy H
    refine ⟨fun h => (by rw [h] at hr; cases hr), fun j hj => ?_⟩
    by_cases hji : j = i
    · subst hji; exact hy.wpOp hi H
    · have := ready_mono hj hji
      rw [H.1] at this
      cases this
  | succ fuel ih =>
    intro listed a w hl hr hy H
    refine ⟨fun h => (by rw [h] at hr; cases hr), fun j hj => ?_⟩
    by_cases hji : j = i
    · subst hji; exact hy.wpOp hi H
    · have h1 := H.2 j (ready_mono hj hji)
      obtain ⟨hjun, oj, hoj, hall⟩ := mem_ready.1 hj
      obtain ⟨k1, k2, k3⟩ := key hl hj hoj hji
      have h2 := wpOp_putW hoj k3 k2 (fun cs b => hsel i oi cs b hi) (fun cs b => hsel j oj cs b hoj) hQ hy h1
      refine wpOp_mono (fun a' w' h3 => ih (listed.setIfInBounds j true) a' w' ?_ (ready_mono hr (Ne.symm hji)) h3.1 ?_) h2
      · simp only [lateB, Bool.and_eq_true, List.all_eq_true, List.mem_range] at hl ⊢
        obtain ⟨⟨l1, l2⟩, l3⟩ := hl
        refine ⟨⟨l1, fun k hk => ?_⟩, by rw [getD_set_ne false hji]; exact l3⟩
        have h4 := l2 k hk
        rw [Array.getElem?_eq_getElem hk] at h4 ⊢
        simp only [Bool.or_eq_true] at h4 ⊢
        rcases h4 with h4 | h4
        · exact .inl h4
        · refine .inr ?_
          by_cases hjk : j = k
          · subst hjk
            rw [k1] at h4 ⊢
            have hsz : j < listed.size := by
              rcases Nat.lt_or_ge j listed.size with h' | h'
              · exact h'
              · simp [Array.getElem?_eq_none h'] at hjun
            simp [hsz]
          · rw [getD_set_ne true hjk, getD_set_ne false hjk]
            exact h4
      · rw [Array.setIfInBounds_comm _ _ hji]
        exact h3.2
end

section
variable {C : Ctx} {P : Program} {nt : Nat} {st : St} {o : Oper} {x : V} {p : Prop} {K : St → Prop} {ops : Array Oper} {listed : Array Bool} {fuel i : Nat}
/-- A reading operation that all that writes waits for, taken at once. -/
theorem run_anyR (i : Nat) (L : List Nat) (hc : CtxIs C P nt) (hi : ops[i]? = some o) (hB : (Region.noSelect ops && lateB ops L i listed && (Region.ready .any ops listed).contains i) = true) (hg : o.guard = none)
    (he : Gives (ro P (fun g => ev g st) true st.objs o.op) (x, p)) (hp : p) (hd : dstB nt o.dst = true) {st2 : St} (h2 : Gives (some (st.put o.dst x)) st2) (hk : anyW C ops fuel (listed.setIfInBounds i true) st2 K) : anyW C ops (fuel + 1) listed st K := by
  obtain ⟨rfl, rfl, hok⟩ := hc
  cases h2
  intro a w ⟨ok, h, r⟩ Q hQ hn
  simp only [Bool.and_eq_true] at hB
  obtain ⟨v, h4, h5⟩ := ro_sound r (fun g hg x y => ev_sound hg r) he hp
  refine wpAny_calm (v := v) L hi (Region.noSelect_spec hB.1.1) (fun c a w hq => absurd hq (hn _ _ _)) fuel listed a w hB.1.2 (by simpa using hB.2) (.inl ⟨by simp [Region.wanted, hg], fun w' hw' => h5 w' fun b _ => by rw [hw']⟩) (hk _ w ⟨ok, h, r.put (dstB_spec hd) h4⟩ Q hQ hn)
end
end Go.Lw
/-
  FRONTIER: Add, an item that is there (program). (WITH run_drawN.)
-/
set_option linter.unusedSimpArgs false
set_option linter.unusedVariables false
namespace Go.Proofs.YtpmfmjgnhdfakaaGreatDoor
open Go.Lw Go.RowKit
set_option maxRecDepth 100000
set_option maxHeartbeats 80000000

theorem frAddT_ok (f : Frt) (w : Wnt) (hf : FrOk f) (hw : w.1.length ≤ 9223372036854775807) (he : frE f = 0) (he2 : wntE w = 0) (hb : thereB (keyAt f.items) f.items.length w.1 = true) :
    FnOk Tryz.prog 9 [frD f, wntD w] (.tup [frD { f with items := f.items.set (lbB (keyAt f.items) f.items.length w.1) (joinW (wntAt f.items (lbB (keyAt f.items) f.items.length w.1)) w) }, int 0]) := by
  refine fnOk Tryz.func9 rfl (by kernel_rfl) Tryz.ntmps9 _ rfl (by simp) fun C hc => ?_
  have hF := checkFr_ok f hf
  have hW := checkWanted_ok w hw
  have hg := (fun h => frE_good (f := f) h) he
  rw [he] at hF
  rw [he2] at hW
  have hOwn := frOwn_ok f hg.items hg.hosts hg.many
  have hBS := bsWnt_ok f.items w.1 hg.items hg.keys
  have hp : lbB (keyAt f.items) f.items.length w.1 < f.items.length := by
    have h := hb
    unfold thereB at h
    simp only [Bool.and_eq_true, decide_eq_true_eq] at h
    exact h.1
  unfold owV at hOwn
  have hl := hg.items
  clear hf hg he he2
  obtain ⟨I, H, bu, wi⟩ := f
  simp only at hOwn hBS hp hF hb hl ⊢
  rw [hb] at hBS
  clear hb
  generalize lbB (keyAt I) I.length w.1 = p at hBS hp ⊢
  repeat' (first | (first | refine Ya ?_ | refine Yb ?_ | refine Yc ?_ | refine Yd ?_ | refine Ye ?_ | refine Yf ?_ | refine Yg ?_ | refine Yh ?_ | refine Yi ?_ | refine Yj ?_ | refine Yk ?_ | refine Yl ?_ | refine Ym ?_ | refine Yn ?_ | refine Yo ?_ | refine Yp (h := ?_) | refine Yq ?_ | refine Yr ?_ | refine Ys ?_ | refine Zr hc (hk := ?_) | refine Zd hc (hk := ?_) | (refine Zc (ht := fun hb => ?_) (hf := fun hb => ?_) <;> (try simp at hb)) | fail) | (first | refine Zw hc (hf := by first | exact hF | exact hW | exact hBS) (hk := ?_) | refine Zq hc (hf := by first | exact hF | exact hW | exact hBS) (hk := ?_) | refine Zo hc (hk := ?_) | refine Zu hc (hk := ?_) | refine Ze hc (hk := ?_) | fail) | ((first | refine run_callM ([(40001, 40001), (40002, 40002)]) (hOwn) hc (by simp; exact Gives.mk) (by simp; exact Gives.mk) (by simp; exact Gives.mk) (by simp; exact Gives.mk) (by simp; exact Gives.mk) rfl (by simp; exact Gives.mk) (by simp; exact Gives.mk) rfl (by simp) (by simp) (by simp; exact Gives.mk) (by simp; exact Gives.mk) ?_ | fail)))
  all_goals try contradiction
  all_goals try (exfalso; omega)
  refine ewp_le (run_keep [2, 3, 4, 8] [2, 3, 4, 40001, 40002] (by simp; exact Gives.mk) (by simp; exact Gives.mk)) ?_
  clear hBS hOwn hF hW
  (apply Xd 30 hc; (focus (refine Xp 0 hc (hk := ?_); refine Xm 2 hc (hk := ?_); refine Xp 3 hc (hk := ?_); refine Xm 5 hc (hk := ?_); refine Xp 6 hc (hk := ?_); refine Xm 8 hc (hk := ?_); refine Xp 12 hc (hk := ?_); refine Xp 15 hc (hk := ?_); refine Xm 17 hc (hk := ?_); refine Xp 21 hc (hk := ?_); refine run_anyR 1 [1, 24, 25, 26, 27, 28, 29] hc rfl (by kernel_rfl) rfl (by simp; exact Gives.mk) (by first | exact True.intro | omega | (simp; done) | (simp; omega) | (simp at *; omega)) (by simp) (by simp; exact Gives.mk) ?_; refine run_anyR 7 [7, 9, 10, 11, 14, 24, 25, 26, 27, 28, 29] hc rfl (by kernel_rfl) rfl (by simp; exact Gives.mk) (by first | exact True.intro | omega | (simp; done) | (simp; omega) | (simp at *; omega)) (by simp) (by simp; exact Gives.mk) ?_; refine run_anyR 13 [13, 14, 24, 25, 26, 27, 28, 29] hc rfl (by kernel_rfl) rfl (by simp; exact Gives.mk) (by first | exact True.intro | omega | (simp; done) | (simp; omega) | (simp at *; omega)) (by simp) (by simp; exact Gives.mk) ?_; refine run_anyR 16 [16, 18, 19, 20, 23, 24, 25, 26, 27, 28, 29] hc rfl (by kernel_rfl) rfl (by simp; exact Gives.mk) (by first | exact True.intro | omega | (simp; done) | (simp; omega) | (simp at *; omega)) (by simp) (by simp; exact Gives.mk) ?_; refine Xa [4, 9, 18, 22] (hx := ?_); refine ⟨?_, ?_, ?_, ?_⟩; (focus (refine Xw hc (hk := ?q100); refine Xa [9, 18, 22] (hx := ?nq100); refine ⟨?_, ?_, ?_⟩; (focus (refine Xw hc (hk := ?q101); refine Xp 10 hc (hk := ?nq101); refine run_anyR 11 [11, 14, 24, 25, 26, 27, 28, 29] hc rfl (by kernel_rfl) rfl (by simp; exact Gives.mk) (by first | exact True.intro | omega | (simp; done) | (simp; omega) | (simp at *; omega)) (by simp) (by simp; exact Gives.mk) ?_; refine Xp 14 hc (hk := ?_); refine Xa [18, 22] (hx := ?_); refine ⟨?_, ?_⟩; (focus (refine Xw hc (hk := ?q102); refine Xp 19 hc (hk := ?nq102); refine run_anyR 20 [20, 23, 24, 25, 26, 27, 28, 29] hc rfl (by kernel_rfl) rfl (by simp; exact Gives.mk) (by first | exact True.intro | omega | (simp; done) | (simp; omega) | (simp at *; omega)) (by simp) (by simp; exact Gives.mk) ?_; refine Xa [22, 24] (hx := ?_); refine ⟨?_, ?_⟩; (focus (refine Xw hc (hk := ?q103); refine Xp 23 hc (hk := ?nq103); refine Xa [24] (hx := ?_); (focus (refine Xw hc (hk := ?q104); refine Xp 25 hc (hk := ?nq104); refine Xa [26] (hx := ?_); (focus (refine Xw hc (hk := ?q105); refine Xa [27] (hx := ?nq105); (focus (refine Xw hc (hk := ?q106); refine Xp 28 hc (hk := ?nq106); refine Xa [29] (hx := ?_); (focus (refine Xw hc (hk := ?q107); refine Xz (hk := ?nq107); exact Xk [2, 4] [2, 4, 40001, 40002])))))))))); (focus (refine Xw hc (hk := ?q108); refine Xp 25 hc (hk := ?nq108); refine Xa [22, 26] (hx := ?_); refine ⟨?_, ?_⟩; (focus (refine Xw hc (hk := ?q109); refine Xp 23 hc (hk := ?nq109); refine Xa [26] (hx := ?_); (focus (refine Xw hc (hk := ?_); exact Xq ?q105)))); (focus (refine Xw hc (hk := ?q1010); refine run_anyR 22 [22, 23, 27, 28, 29] hc rfl (by kernel_rfl) rfl (by simp; exact Gives.mk) (by first | exact True.intro | omega | (simp; done) | (simp; omega) | (simp at *; omega)) (by simp) (by simp; exact Gives.mk) ?nq1010; refine Xp 23 hc (hk := ?_); refine Xa [27] (hx := ?_); (focus (refine Xw hc (hk := ?_); exact Xq ?q106)))))))); (focus (refine Xw hc (hk := ?q1011); refine Xa [18] (hx := ?nq1011); (focus (refine Xw hc (hk := ?q1012); refine Xp 19 hc (hk := ?nq1012); refine run_anyR 20 [20, 23, 24, 25, 26, 27, 28, 29] hc rfl (by kernel_rfl) rfl (by simp; exact Gives.mk) (by first | exact True.intro | omega | (simp; done) | (simp; omega) | (simp at *; omega)) (by simp) (by simp; exact Gives.mk) ?_; refine Xp 23 hc (hk := ?_); refine Xa [24] (hx := ?_); (focus (refine Xw hc (hk := ?_); exact Xq ?q104)))))))); (focus (refine Xw hc (hk := ?q1013); refine Xp 19 hc (hk := ?nq1013); refine run_anyR 20 [20, 23, 24, 25, 26, 27, 28, 29] hc rfl (by kernel_rfl) rfl (by simp; exact Gives.mk) (by first | exact True.intro | omega | (simp; done) | (simp; omega) | (simp at *; omega)) (by simp) (by simp; exact Gives.mk) ?_; refine Xa [9, 22] (hx := ?_); refine ⟨?_, ?_⟩; (focus (refine Xw hc (hk := ?q1014); refine Xp 10 hc (hk := ?nq1014); refine run_anyR 11 [11, 14, 24, 25, 26, 27, 28, 29] hc rfl (by kernel_rfl) rfl (by simp; exact Gives.mk) (by first | exact True.intro | omega | (simp; done) | (simp; omega) | (simp at *; omega)) (by simp) (by simp; exact Gives.mk) ?_; refine Xp 14 hc (hk := ?_); refine Xa [22, 24] (hx := ?_); refine ⟨?_, ?_⟩; (focus (refine Xw hc (hk := ?_); exact Xq ?q103)); (focus (refine Xw hc (hk := ?_); exact Xq ?q108)))); (focus (refine Xw hc (hk := ?q1015); refine Xp 23 hc (hk := ?nq1015); refine Xa [9] (hx := ?_); (focus (refine Xw hc (hk := ?q1016); refine Xp 10 hc (hk := ?nq1016); refine run_anyR 11 [11, 14, 24, 25, 26, 27, 28, 29] hc rfl (by kernel_rfl) rfl (by simp; exact Gives.mk) (by first | exact True.intro | omega | (simp; done) | (simp; omega) | (simp at *; omega)) (by simp) (by simp; exact Gives.mk) ?_; refine Xp 14 hc (hk := ?_); refine Xa [24] (hx := ?_); (focus (refine Xw hc (hk := ?_); exact Xq ?q104)))))))); (focus (refine Xw hc (hk := ?q1017); refine Xa [9, 18] (hx := ?nq1017); refine ⟨?_, ?_⟩; (focus (refine Xw hc (hk := ?q1018); refine Xp 10 hc (hk := ?nq1018); refine run_anyR 11 [11, 14, 24, 25, 26, 27, 28, 29] hc rfl (by kernel_rfl) rfl (by simp; exact Gives.mk) (by first | exact True.intro | omega | (simp; done) | (simp; omega) | (simp at *; omega)) (by simp) (by simp; exact Gives.mk) ?_; refine Xp 14 hc (hk := ?_); refine Xa [18] (hx := ?_); (focus (refine Xw hc (hk := ?_); exact Xq ?q1012)))); (focus (refine Xw hc (hk := ?q1019); refine Xp 19 hc (hk := ?nq1019); refine run_anyR 20 [20, 23, 24, 25, 26, 27, 28, 29] hc rfl (by kernel_rfl) rfl (by simp; exact Gives.mk) (by first | exact True.intro | omega | (simp; done) | (simp; omega) | (simp at *; omega)) (by simp) (by simp; exact Gives.mk) ?_; refine Xp 23 hc (hk := ?_); refine Xa [9] (hx := ?_); (focus (refine Xw hc (hk := ?_); exact Xq ?q1016)))))))); (focus (refine Xw hc (hk := ?q1020); refine Xp 10 hc (hk := ?nq1020); refine run_anyR 11 [11, 14, 24, 25, 26, 27, 28, 29] hc rfl (by kernel_rfl) rfl (by simp; exact Gives.mk) (by first | exact True.intro | omega | (simp; done) | (simp; omega) | (simp at *; omega)) (by simp) (by simp; exact Gives.mk) ?_; refine Xp 14 hc (hk := ?_); refine Xa [4, 18, 22] (hx := ?_); refine ⟨?_, ?_, ?_⟩; (focus (refine Xw hc (hk := ?q1021); refine Xa [18, 22] (hx := ?nq1021); refine ⟨?_, ?_⟩; (focus (refine Xw hc (hk := ?_); exact Xq ?q102)); (focus (refine Xw hc (hk := ?_); exact Xq ?q1011)))); (focus (refine Xw hc (hk := ?q1022); refine Xp 19 hc (hk := ?nq1022); refine run_anyR 20 [20, 23, 24, 25, 26, 27, 28, 29] hc rfl (by kernel_rfl) rfl (by simp; exact Gives.mk) (by first | exact True.intro | omega | (simp; done) | (simp; omega) | (simp at *; omega)) (by simp) (by simp; exact Gives.mk) ?_; refine Xa [4, 22, 24] (hx := ?_); refine ⟨?_, ?_, ?_⟩; (focus (refine Xw hc (hk := ?q1023); refine Xa [22, 24] (hx := ?nq1023); refine ⟨?_, ?_⟩; (focus (refine Xw hc (hk := ?_); exact Xq ?q103)); (focus (refine Xw hc (hk := ?_); exact Xq ?q108)))); (focus (refine Xw hc (hk := ?q1024); refine Xp 23 hc (hk := ?nq1024); refine Xa [4, 24] (hx := ?_); refine ⟨?_, ?_⟩; (focus (refine Xw hc (hk := ?q1025); refine Xa [24] (hx := ?nq1025); (focus (refine Xw hc (hk := ?_); exact Xq ?q104)))); (focus (refine Xw hc (hk := ?q1026); refine Xp 25 hc (hk := ?nq1026); refine Xa [4, 26] (hx := ?_); refine ⟨?_, ?_⟩; (focus (refine Xw hc (hk := ?q1027); refine Xa [26] (hx := ?nq1027); (focus (refine Xw hc (hk := ?_); exact Xq ?q105)))); (focus (refine Xw hc (hk := ?q1028); refine run_anyR 4 [4, 27, 28, 29] hc rfl (by kernel_rfl) rfl (by simp; exact Gives.mk) (by first | exact True.intro | omega | (simp; done) | (simp; omega) | (simp at *; omega)) (by simp) (by simp; exact Gives.mk) ?nq1028; refine Xa [27] (hx := ?_); (focus (refine Xw hc (hk := ?_); exact Xq ?q106)))))))); (focus (refine Xw hc (hk := ?q1029); refine Xp 25 hc (hk := ?nq1029); refine Xa [4, 22, 26] (hx := ?_); refine ⟨?_, ?_, ?_⟩; (focus (refine Xw hc (hk := ?q1030); refine Xa [22, 26] (hx := ?nq1030); refine ⟨?_, ?_⟩; (focus (refine Xw hc (hk := ?_); exact Xq ?q109)); (focus (refine Xw hc (hk := ?_); exact Xq ?q1010)))); (focus (refine Xw hc (hk := ?q1031); refine Xp 23 hc (hk := ?nq1031); refine Xa [4, 26] (hx := ?_); refine ⟨?_, ?_⟩; (focus (refine Xw hc (hk := ?_); exact Xq ?q1027)); (focus (refine Xw hc (hk := ?_); exact Xq ?q1028)))); (focus (refine Xw hc (hk := ?q1032); refine run_anyR 4 [4, 27, 28, 29] hc rfl (by kernel_rfl) rfl (by simp; exact Gives.mk) (by first | exact True.intro | omega | (simp; done) | (simp; omega) | (simp at *; omega)) (by simp) (by simp; exact Gives.mk) ?nq1032; refine run_anyR 22 [22, 23, 27, 28, 29] hc rfl (by kernel_rfl) rfl (by simp; exact Gives.mk) (by first | exact True.intro | omega | (simp; done) | (simp; omega) | (simp at *; omega)) (by simp) (by simp; exact Gives.mk) ?_; refine Xp 23 hc (hk := ?_); refine Xa [27] (hx := ?_); (focus (refine Xw hc (hk := ?_); exact Xq ?q106)))))))); (focus (refine Xw hc (hk := ?q1033); refine Xa [4, 18] (hx := ?nq1033); refine ⟨?_, ?_⟩; (focus (refine Xw hc (hk := ?_); exact Xq ?q1011)); (focus (refine Xw hc (hk := ?q1034); refine Xp 19 hc (hk := ?nq1034); refine run_anyR 20 [20, 23, 24, 25, 26, 27, 28, 29] hc rfl (by kernel_rfl) rfl (by simp; exact Gives.mk) (by first | exact True.intro | omega | (simp; done) | (simp; omega) | (simp at *; omega)) (by simp) (by simp; exact Gives.mk) ?_; refine Xp 23 hc (hk := ?_); refine Xa [4, 24] (hx := ?_); refine ⟨?_, ?_⟩; (focus (refine Xw hc (hk := ?_); exact Xq ?q1025)); (focus (refine Xw hc (hk := ?_); exact Xq ?q1026)))))))); (focus (refine Xw hc (hk := ?q1035); refine Xp 19 hc (hk := ?nq1035); refine run_anyR 20 [20, 23, 24, 25, 26, 27, 28, 29] hc rfl (by kernel_rfl) rfl (by simp; exact Gives.mk) (by first | exact True.intro | omega | (simp; done) | (simp; omega) | (simp at *; omega)) (by simp) (by simp; exact Gives.mk) ?_; refine Xa [4, 9, 22] (hx := ?_); refine ⟨?_, ?_, ?_⟩; (focus (refine Xw hc (hk := ?q1036); refine Xa [9, 22] (hx := ?nq1036); refine ⟨?_, ?_⟩; (focus (refine Xw hc (hk := ?_); exact Xq ?q1014)); (focus (refine Xw hc (hk := ?_); exact Xq ?q1015)))); (focus (refine Xw hc (hk := ?q1037); refine Xp 10 hc (hk := ?nq1037); refine run_anyR 11 [11, 14, 24, 25, 26, 27, 28, 29] hc rfl (by kernel_rfl) rfl (by simp; exact Gives.mk) (by first | exact True.intro | omega | (simp; done) | (simp; omega) | (simp at *; omega)) (by simp) (by simp; exact Gives.mk) ?_; refine Xp 14 hc (hk := ?_); refine Xa [4, 22, 24] (hx := ?_); refine ⟨?_, ?_, ?_⟩; (focus (refine Xw hc (hk := ?_); exact Xq ?q1023)); (focus (refine Xw hc (hk := ?_); exact Xq ?q1024)); (focus (refine Xw hc (hk := ?_); exact Xq ?q1029)))); (focus (refine Xw hc (hk := ?q1038); refine Xp 23 hc (hk := ?nq1038); refine Xa [4, 9] (hx := ?_); refine ⟨?_, ?_⟩; (focus (refine Xw hc (hk := ?q1039); refine Xa [9] (hx := ?nq1039); (focus (refine Xw hc (hk := ?_); exact Xq ?q1016)))); (focus (refine Xw hc (hk := ?q1040); refine Xp 10 hc (hk := ?nq1040); refine run_anyR 11 [11, 14, 24, 25, 26, 27, 28, 29] hc rfl (by kernel_rfl) rfl (by simp; exact Gives.mk) (by first | exact True.intro | omega | (simp; done) | (simp; omega) | (simp at *; omega)) (by simp) (by simp; exact Gives.mk) ?_; refine Xp 14 hc (hk := ?_); refine Xa [4, 24] (hx := ?_); refine ⟨?_, ?_⟩; (focus (refine Xw hc (hk := ?_); exact Xq ?q1025)); (focus (refine Xw hc (hk := ?_); exact Xq ?q1026)))))))); (focus (refine Xw hc (hk := ?q1041); refine Xa [4, 9, 18] (hx := ?nq1041); refine ⟨?_, ?_, ?_⟩; (focus (refine Xw hc (hk := ?_); exact Xq ?q1017)); (focus (refine Xw hc (hk := ?q1042); refine Xp 10 hc (hk := ?nq1042); refine run_anyR 11 [11, 14, 24, 25, 26, 27, 28, 29] hc rfl (by kernel_rfl) rfl (by simp; exact Gives.mk) (by first | exact True.intro | omega | (simp; done) | (simp; omega) | (simp at *; omega)) (by simp) (by simp; exact Gives.mk) ?_; refine Xp 14 hc (hk := ?_); refine Xa [4, 18] (hx := ?_); refine ⟨?_, ?_⟩; (focus (refine Xw hc (hk := ?_); exact Xq ?q1011)); (focus (refine Xw hc (hk := ?_); exact Xq ?q1034)))); (focus (refine Xw hc (hk := ?q1043); refine Xp 19 hc (hk := ?nq1043); refine run_anyR 20 [20, 23, 24, 25, 26, 27, 28, 29] hc rfl (by kernel_rfl) rfl (by simp; exact Gives.mk) (by first | exact True.intro | omega | (simp; done) | (simp; omega) | (simp at *; omega)) (by simp) (by simp; exact Gives.mk) ?_; refine Xp 23 hc (hk := ?_); refine Xa [4, 9] (hx := ?_); refine ⟨?_, ?_⟩; (focus (refine Xw hc (hk := ?_); exact Xq ?q1039)); (focus (refine Xw hc (hk := ?_); exact Xq ?q1040)))))))))
  repeat' (first | (first | refine Ya ?_ | refine Yb ?_ | refine Yc ?_ | refine Yd ?_ | refine Ye ?_ | refine Yf ?_ | refine Yg ?_ | refine Yh ?_ | refine Yi ?_ | refine Yj ?_ | refine Yk ?_ | refine Yl ?_ | refine Ym ?_ | refine Yn ?_ | refine Yo ?_ | refine Yp (h := ?_) | refine Yq ?_ | refine Yr ?_ | refine Ys ?_ | refine Zr hc (hk := ?_) | refine Zd hc (hk := ?_) | (refine Zc (ht := fun hb => ?_) (hf := fun hb => ?_) <;> (try simp at hb)) | fail) | (first | refine Zo hc (hk := ?_) | refine Zu hc (hk := ?_) | refine Ze hc (hk := ?_) | fail))
  all_goals try contradiction
  have hxl : p < (I.map wntCells).length := by simpa using hp
  (refine Zl hc (hr := ?_))
  have e := set_cells I w p hp _ rfl
  have hj : wntCells (joinW (wntAt I p) w) = [str (I[p]?.getD wnt0).1, int (min (I[p]?.getD wnt0).2.1 w.2.1), int (min (I[p]?.getD wnt0).2.2 w.2.2)] := by simp [joinW, wntAt]
  rw [hj] at e
  simp only [min_if, List.getElem?_set_self hxl, Option.getD_some, List.take_succ_cons, List.take_zero, List.drop_succ_cons, List.drop_zero, List.cons_append, List.nil_append, resD, frD, wntSl, List.length_set]
  rw [e]
end Go.Proofs.YtpmfmjgnhdfakaaGreatDoor
/-
  FRONTIER: Add (program). (WITH run_drawN.)
-/
set_option linter.unusedSimpArgs false
set_option linter.unusedVariables false
namespace Go.Proofs.YtpmfmjgnhdfakaaGreatDoor
open Go.Lw Go.RowKit
set_option maxRecDepth 100000
set_option maxHeartbeats 8000000

theorem frAdd_ok (f : Frt) (w : Wnt) (hf : FrOk f) (hw : w.1.length ≤ 9223372036854775807) : FnOk Tryz.prog 9 [frD f, wntD w] (addD f w) := by
  by_cases hall : frE f = 0 ∧ wntE w = 0 ∧ thereB (keyAt f.items) f.items.length w.1 = true
  · obtain ⟨a1, a2, a3⟩ := hall
    have h := frAddT_ok f w hf hw a1 a2 a3
    have e : addD f w = .tup [frD { f with items := f.items.set (lbB (keyAt f.items) f.items.length w.1) (joinW (wntAt f.items (lbB (keyAt f.items) f.items.length w.1)) w) }, int 0] := by
      have ha : addE f w = 0 := by
        unfold addE
        rw [if_neg (fun e => e a1), if_neg (fun e => e a2), a3, if_neg (fun h => by cases h.1 : ¬ (true = false ∧ 2000 ≤ f.items.length))]
      unfold addD
      rw [ha, if_neg (fun e => e rfl)]
      unfold addI
      rw [if_pos a3]
    rw [e]
    exact h
  refine fnOk Tryz.func9 rfl (by kernel_rfl) Tryz.ntmps9 _ rfl (by simp) fun C hc => ?_
  have hF := checkFr_ok f hf
  have hW := checkWanted_ok w hw
  have hgd := fun h => frE_good (f := f) h
  by_cases he : frE f = 0
  rotate_left
  · have e : addE f w = frE f := by unfold addE; rw [if_pos he]
    unfold addD
    rw [e, if_pos he]
    generalize frE f = e at hF he
    repeat' (first | (first | refine Ya ?_ | refine Yb ?_ | refine Yc ?_ | refine Yd ?_ | refine Ye ?_ | refine Yf ?_ | refine Yg ?_ | refine Yh ?_ | refine Yi ?_ | refine Yj ?_ | refine Yk ?_ | refine Yl ?_ | refine Ym ?_ | refine Yn ?_ | refine Yo ?_ | refine Yp (h := ?_) | refine Yq ?_ | refine Yr ?_ | refine Ys ?_ | refine Zr hc (hk := ?_) | refine Zd hc (hk := ?_) | (refine Zc (ht := fun hb => ?_) (hf := fun hb => ?_) <;> (try simp at hb)) | fail) | (first | refine Zw hc (hf := by exact hF) (hk := ?_) | refine Zq hc (hf := by exact hF) (hk := ?_) | refine Zo hc (hk := ?_) | refine Zu hc (hk := ?_) | refine Ze hc (hk := ?_) | fail))
    all_goals try contradiction
    (refine Zl hc (hr := ?_))
    simp [frNo]
  have hg := hgd he
  rw [he] at hF
  by_cases he2 : wntE w = 0
  rotate_left
  · have e : addE f w = wntE w := by unfold addE; rw [if_neg (fun h => h he), if_pos he2]
    unfold addD
    rw [e, if_pos he2]
    generalize wntE w = e2 at hW he2
    repeat' (first | (first | refine Ya ?_ | refine Yb ?_ | refine Yc ?_ | refine Yd ?_ | refine Ye ?_ | refine Yf ?_ | refine Yg ?_ | refine Yh ?_ | refine Yi ?_ | refine Yj ?_ | refine Yk ?_ | refine Yl ?_ | refine Ym ?_ | refine Yn ?_ | refine Yo ?_ | refine Yp (h := ?_) | refine Yq ?_ | refine Yr ?_ | refine Ys ?_ | refine Zr hc (hk := ?_) | refine Zd hc (hk := ?_) | (refine Zc (ht := fun hb => ?_) (hf := fun hb => ?_) <;> (try simp at hb)) | fail) | (first | refine Zw hc (hf := by first | exact hF | exact hW) (hk := ?_) | refine Zq hc (hf := by first | exact hF | exact hW) (hk := ?_) | refine Zo hc (hk := ?_) | refine Zu hc (hk := ?_) | refine Ze hc (hk := ?_) | fail))
    all_goals try contradiction
    (refine Zl hc (hr := ?_))
    simp [frNo]
  rw [he2] at hW
  have e : addE f w = if thereB (keyAt f.items) f.items.length w.1 = false ∧ 2000 ≤ f.items.length then 16 else 0 := by unfold addE; rw [if_neg (fun h => h he), if_neg (fun h => h he2)]
  unfold addD
  rw [e]
  have hOwn := frOwn_ok f hg.items hg.hosts hg.many
  have hBS := bsWnt_ok f.items w.1 hg.items hg.keys
  obtain ⟨p1, p2, p3⟩ := lbB_spec (keyAt f.items) f.items.length w.1
  have hth : thereB (keyAt f.items) f.items.length w.1 = true → lbB (keyAt f.items) f.items.length w.1 < f.items.length := fun h => by
    unfold thereB at h
    simp only [Bool.and_eq_true, decide_eq_true_eq] at h
    exact h.1
  have hI := fun p hp => insFr_ok f.items w p hp hg.items
  have hl := hg.items
  unfold owV at hOwn
  have hno : thereB (keyAt f.items) f.items.length w.1 = false := Bool.eq_false_iff.2 fun h => hall ⟨he, he2, h⟩
  clear hf hgd hg he he2 e hall
  obtain ⟨I, H, bu, wi⟩ := f
  simp only at hOwn hBS p1 p2 p3 hth hI hl hF hno ⊢
  unfold addI
  generalize lbB (keyAt I) I.length w.1 = p at hBS p1 p2 p3 hth ⊢
  have hI := hI p p1
  rw [hno] at hBS ⊢
  by_cases hfull : 2000 ≤ I.length
  · rw [if_pos (⟨rfl, hfull⟩ : false = false ∧ 2000 ≤ I.length), if_pos (by decide)]
    repeat' (first | (first | refine Ya ?_ | refine Yb ?_ | refine Yc ?_ | refine Yd ?_ | refine Ye ?_ | refine Yf ?_ | refine Yg ?_ | refine Yh ?_ | refine Yi ?_ | refine Yj ?_ | refine Yk ?_ | refine Yl ?_ | refine Ym ?_ | refine Yn ?_ | refine Yo ?_ | refine Yp (h := ?_) | refine Yq ?_ | refine Yr ?_ | refine Ys ?_ | refine Zr hc (hk := ?_) | refine Zd hc (hk := ?_) | (refine Zc (ht := fun hb => ?_) (hf := fun hb => ?_) <;> (try simp at hb)) | fail) | (first | refine Zw hc (hf := by first | exact hF | exact hW | exact hBS) (hk := ?_) | refine Zq hc (hf := by first | exact hF | exact hW | exact hBS) (hk := ?_) | refine Zo hc (hk := ?_) | refine Zu hc (hk := ?_) | refine Ze hc (hk := ?_) | fail) | ((first | refine run_callM ([(40001, 40001), (40002, 40002)]) (hOwn) hc (by simp; exact Gives.mk) (by simp; exact Gives.mk) (by simp; exact Gives.mk) (by simp; exact Gives.mk) (by simp; exact Gives.mk) rfl (by simp; exact Gives.mk) (by simp; exact Gives.mk) rfl (by simp) (by simp) (by simp; exact Gives.mk) (by simp; exact Gives.mk) ?_ | fail)))
    all_goals try contradiction
    all_goals try (exfalso; omega)
    (refine Zl hc (hr := ?_))
    simp [frNo]
  · rw [if_neg (fun h => hfull h.2 : ¬ (false = false ∧ 2000 ≤ I.length)), if_neg (by decide), if_neg (by decide)]
    repeat' (first | (first | refine Ya ?_ | refine Yb ?_ | refine Yc ?_ | refine Yd ?_ | refine Ye ?_ | refine Yf ?_ | refine Yg ?_ | refine Yh ?_ | refine Yi ?_ | refine Yj ?_ | refine Yk ?_ | refine Yl ?_ | refine Ym ?_ | refine Yn ?_ | refine Yo ?_ | refine Yp (h := ?_) | refine Yq ?_ | refine Yr ?_ | refine Ys ?_ | refine Zr hc (hk := ?_) | refine Zd hc (hk := ?_) | (refine Zc (ht := fun hb => ?_) (hf := fun hb => ?_) <;> (try simp at hb)) | fail) | (first | refine Zw hc (hf := by first | exact hF | exact hW | exact hBS) (hk := ?_) | refine Zq hc (hf := by first | exact hF | exact hW | exact hBS) (hk := ?_) | refine Zo hc (hk := ?_) | refine Zu hc (hk := ?_) | refine Ze hc (hk := ?_) | fail) | ((first | refine run_callM ([(40001, 40001), (40002, 40002)]) (hOwn) hc (by simp; exact Gives.mk) (by simp; exact Gives.mk) (by simp; exact Gives.mk) (by simp; exact Gives.mk) (by simp; exact Gives.mk) rfl (by simp; exact Gives.mk) (by simp; exact Gives.mk) rfl (by simp) (by simp) (by simp; exact Gives.mk) (by simp; exact Gives.mk) ?_ | fail)) | ((first | refine run_callM ([(50001, 40001), (50002, 71)]) (hI) hc (by simp; exact Gives.mk) (by simp; exact Gives.mk) (by simp; exact Gives.mk) (by simp; exact Gives.mk) (by simp; exact Gives.mk) rfl (by simp; exact Gives.mk) (by simp; exact Gives.mk) rfl (by simp) (by simp) (by simp; exact Gives.mk) (by simp; exact Gives.mk) ?_ | fail)))
    all_goals try contradiction
    all_goals try (exfalso; omega)
    have hm : I.length + 1 ≤ min p I.length + (I.length - p + 1) := by omega
    (refine run_leave hc (by simp [hm]; exact Gives.mk) ?_)
    have e := insW_cells I w p
    simp only [wntAt] at e
    have el : (I.take p ++ w :: I.drop p).length = I.length + 1 := by simp; omega
    simp only [frD, wntSl, el, resD]
    rw [e]
end Go.Proofs.YtpmfmjgnhdfakaaGreatDoor
