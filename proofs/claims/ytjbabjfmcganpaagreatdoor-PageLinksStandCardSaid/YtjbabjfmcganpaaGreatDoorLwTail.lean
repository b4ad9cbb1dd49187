/-
  A REGION THAT DRAWS ITS ORDER, whose head only reads (or calls) and whose tail is one chain of operations that may write.
-/
import Derived.Test.YtjbabjfmcganpaaGreatDoorLwRun
import Derived.StillTail
set_option linter.unusedSimpArgs false
set_option linter.unusedVariables false
namespace Go.Lw
open Go Go.RowKit

section
variable {P : Program} {ops : Array Oper} {md : Region.Mode} {C : World → Prop}

def headQ (P : Program) (md : Region.Mode) (ops : Array Oper) (C : World → Prop) (n : Nat) (L : Array Bool → Act → Prop) : Nat → Array Bool → Act → Prop
  | 0, listed, a => L listed a
  | f + 1, listed, a => Region.ready md ops listed ≠ [] ∧ ∀ i ∈ Region.ready md ops listed, i < n ∧ qOp P ops C i (headQ P md ops C n L f (listed.setIfInBounds i true)) a

theorem any_of_headQ {n g : Nat} {L : Array Bool → Act → Prop} {Q' : Exit → Act → World → Prop} (hL : ∀ listed a w, C w → L listed a → wpAny P md ops Q' g listed a w) :
    ∀ (f : Nat) (listed : Array Bool) (a : Act) (w : World), C w → headQ P md ops C n L f listed a → wpAny P md ops Q' (f + g) listed a w
  | 0, listed, a, w, hw, h => by rw [Nat.zero_add]; exact hL _ _ _ hw h
  | f + 1, listed, a, w, hw, h => by
    rw [show f + 1 + g = (f + g) + 1 by omega]
    exact ⟨fun h0 => absurd h0 h.1, fun i hi => wpOp_of_qOp hw (fun a' w' hw' h' => any_of_headQ hL f _ a' w' hw' h') (h.2 i hi).2⟩

theorem headQ_first {n i : Nat} {oi : Oper} {v : Value} {L : Array Bool → Act → Prop} (hi : ops[i]? = some oi) (hsel : ∀ (j : Nat) (o : Oper) cs b, ops[j]? = some o → o.op ≠ .select cs b)
    (hs : Region.sinkB md ops n = true) (hc : Region.chainB md ops n = true) (hn : n < ops.size) (hin : i < n)
    (hdone : ∀ listed a, L listed a → ∀ j ∈ Region.ready md ops listed, n ≤ j) :
    ∀ (f : Nat) (listed : Array Bool) (a : Act), HeadInv md ops n listed →
      (∀ j oj, ops[j]? = some oj → j ≠ i → listed.getD j true = false → (∀ e ∈ oj.after, Region.binds md e = true → e.on ≠ i) → oi.apart ops oj = true) →
      i ∈ Region.ready md ops listed → YieldsIn P ops C oi v a →
      headQ P md ops C n L f (listed.setIfInBounds i true) (a.put oi.dst v) → headQ P md ops C n L (f + 1) listed a := by
  intro f
  induction f with
  | zero =>
    intro listed a inv _ hr hy H
    have hun := (mem_ready.1 hr).1
    refine ⟨fun h => (by rw [h] at hr; cases hr), fun j hj => ?_⟩
    have hjn : j < n := by
      rcases Nat.lt_or_ge j n with h | h
      · exact h
      · exact absurd hj (tail_waits hs hc hn inv _ i rfl hin hun j h)
    refine ⟨hjn, ?_⟩
    by_cases hji : j = i
    · subst hji; exact hy.qOp hi H
    · have := hdone _ _ H j (ready_mono hj hji)
      omega
  | succ f ih =>
    intro listed a inv hfree hr hy H
    have hun := (mem_ready.1 hr).1
    refine ⟨fun h => (by rw [h] at hr; cases hr), fun j hj => ?_⟩
    have hjn : j < n := by
      rcases Nat.lt_or_ge j n with h | h
      · exact h
      · exact absurd hj (tail_waits hs hc hn inv _ i rfl hin hun j h)
    refine ⟨hjn, ?_⟩
    by_cases hji : j = i
    · subst hji; exact hy.qOp hi H
    · have h1 := (H.2 j (ready_mono hj hji)).2
      obtain ⟨hjun, oj, hoj, hall⟩ := mem_ready.1 hj
      have hnot : ∀ e ∈ oj.after, Region.binds md e = true → e.on ≠ i := fun e he hb heq => by
        have h1 := hall e he hb
        rw [heq, getD_both hun] at h1
        cases h1
      have h2 := qOp_put hoj (hfree j oj hoj hji hjun hnot) (fun cs b => hsel i oi cs b hi) (fun cs b => hsel j oj cs b hoj) hy h1
      have hfree' : ∀ k ok, ops[k]? = some ok → k ≠ i → (listed.setIfInBounds j true).getD k true = false →
          (∀ e ∈ ok.after, Region.binds md e = true → e.on ≠ i) → oi.apart ops ok = true := fun k ok hk hki hun hno => by
        refine hfree k ok hk hki ?_ hno
        by_cases hjk : j = k
        · subst hjk; exact hjun
        · rw [getD_set_ne true hjk] at hun; exact hun
      refine qOp_mono (fun a' h3 => ih (listed.setIfInBounds j true) a' (inv.set hj hjn) hfree' (ready_mono hr (Ne.symm hji)) h3.1 ?_) h2
      rw [Array.setIfInBounds_comm _ _ hji]
      exact h3.2

theorem headQ_lex {n g : Nat} {Lq : Act → Prop} (hsel : Region.noSelect ops = true) (hs : Region.sinkB md ops n = true) (hc : Region.chainB md ops n = true) (hn : n < ops.size) :
    ∀ (l : List Oper) (k : Nat) (listed : Array Bool) (a : Act), (∀ j, j < l.length → l[j]? = ops[k + j]?) → k + l.length = n → HeadInv md ops n listed →
    Region.lexHead md ops g l.length k listed = true → wpQuiet P ops C Lq l a →
    headQ P md ops C n (fun listed' a' => Region.seqB md ops g n listed' = true ∧ Lq a') l.length listed a
  | [], k, listed, a, _, hk, _, hB, h => by
    have : k = n := by simpa using hk
    subst this
    exact ⟨by simpa [Region.lexHead] using hB, h⟩
  | o :: l, k, listed, a, hl, hk, inv, hB, h => by
    have h0 : ops[k]? = some o := by simpa using (hl 0 (by simp)).symm
    simp only [List.length_cons, Region.lexHead, Bool.and_eq_true] at hB
    obtain ⟨⟨hr, hf⟩, hB'⟩ := hB
    have hkn : k < n := by simp only [List.length_cons] at hk; omega
    have hr' : k ∈ Region.ready md ops listed := by simpa using hr
    have hst : qOp P ops C k (wpQuiet P ops C Lq l) a := by unfold qOp; simp only [h0]; exact h
    obtain ⟨v, hy, hK⟩ := yieldsIn_of_qOp h0 hst
    exact headQ_first h0 (Region.noSelect_spec hsel) hs hc hn hkn (fun listed' a' hL => seqB_ready hL.1) l.length listed a inv (Region.free_spec h0 hf) hr' hy
      (headQ_lex hsel hs hc hn l (k + 1) _ _ (fun j hj => by have := hl (j + 1) (by simp; omega); simpa [Nat.add_assoc, Nat.add_comm 1 j] using this) (by simp only [List.length_cons] at hk; omega) (inv.set hr' hkn) hB' hK)

theorem wp_region_quiet_tail {id : Nat} {Q : Exit → Act → World → Prop} {a : Act} {w : World} {l : List Oper} (n : Nat) (hm : P.follows .mixedOrders = true) (hB : Region.lexTailB .any l.toArray n = true) (hC : C { w with drawn := w.drawn + 1 })
    (h : wpQuiet P l.toArray C (fun a' => ∀ w', C w' → wpList P l.toArray Q (l.drop n) a' w') (l.take n) a) : (Code.region id l.toArray true).wp P Q a w := by
  simp only [Region.lexTailB, Bool.and_eq_true, decide_eq_true_eq] at hB
  obtain ⟨⟨⟨⟨hsel, hn⟩, hs⟩, hc⟩, hlex⟩ := hB
  have hn' : n < l.length := by simpa using hn
  have htl : (l.take n).length = n := by simp; omega
  have hdl : (l.drop n).length = l.toArray.size - n := by simp
  have inv0 : HeadInv .any l.toArray n (Array.replicate l.toArray.size false) :=
    ⟨by simp, fun j oj _ hl => (by rw [getD_replicate_false] at hl; cases hl), fun t _ ht => getD_in (by simpa using ht) (getD_replicate_false _ _)⟩
  have H := headQ_lex (md := .any) (g := l.toArray.size - n) hsel hs hc hn (l.take n) 0 _ a (fun j hj => by
    have hj' : j < n := by rw [htl] at hj; exact hj
    simp [hj']) (by simpa using htl) inv0 (by rw [htl]; exact hlex) h
  refine wp_region_any hm ?_
  have := any_of_headQ (Q' := Q) (g := l.toArray.size - n) (fun listed a' w' hw' hL => by
    have := wpAny_of_seq (md := .any) (Q' := Q) (l.drop n) n listed a' w' (fun j => by simp [List.getElem?_drop]) (by rw [hdl]; exact hL.1) (hL.2 w' hw')
    rwa [hdl] at this) _ _ _ _ hC H
  rw [htl, show n + (l.toArray.size - n) = l.toArray.size by omega] at this
  exact this
end

section
variable {C : Ctx} {P : Program} {nt : Nat} {st : St} {Q : Exit → St → Prop}
theorem run_drawT (n : Nat) {id : Nat} {l : List Oper} (hc : CtxIs C P nt) (hm : P.follows .mixedOrders = true) (hB : Region.lexTailB .any l.toArray n = true)
    (hl : quietW C l.toArray (l.take n) st fun st' => opsW C l.toArray (l.drop n) st' fun st'' => Q .normal st'') : ewp C (.region id l.toArray true) Q st := by
  obtain ⟨rfl, rfl, hok⟩ := hc
  rintro a w ⟨ok, h, r⟩
  refine wp_region_quiet_tail (C := fun w' => Below w.heap.size w w') n hm hB ((Below.refl _ w).drew) ?_
  refine (hl ok h a w r _ fun a' st' hq r' w' hw' => ?_).one (fam_below w)
  exact hq a' w' ⟨ok, h, r'.below hok hw'⟩ _ fun a'' w'' st'' hk r'' => ⟨st'', hk, r''⟩
end

/-! ALL ORDERS: operations that look at no memory are taken at once, the others in each order. -/
mutual
def flatV : V → Bool
  | .d x => flat x
  | .bp .. | .el .. | .os .. | .ot .. | .mp .. | .any => true
  | .vagg cs | .vtup cs | .vclo _ cs => flatVL cs
  | .when _ x => flatV x
def flatVL : List V → Bool
  | [] => true
  | x :: r => flatV x && flatVL r
end
theorem flatVL_get {cs : List V} (hf : flatVL cs = true) : ∀ {i : Nat} {x : V}, cs[i]? = some x → flatV x = true := by
  induction cs with
  | nil => intro i x hx; simp at hx
  | cons y r ih =>
    simp only [flatVL, Bool.and_eq_true] at hf
    intro i x hx
    cases i with
    | zero => cases hx; exact hf.1
    | succ i => exact ih hf.2 (by simpa using hx)
theorem RdV.flatV {w w' : World} {ok ok' : Nat → Prop} {h : Nat → Hd} {x : V} {v : Value} (hx : RdV w ok h x v) (hf : Lw.flatV x = true) : RdV w' ok' h x v := by
  induction hx with
  | d x v hx => exact .d x v (hx.flat (flat_of (by simpa [Lw.flatV] using hf)))
  | any v => exact .any v
  | bp id off b hb => exact .bp id off b hb
  | el id i off b hb => exact .el id i off b hb
  | os id n hc => exact .os id n hc
  | ot id lo n hc => exact .ot id lo n hc
  | mp id b hb => exact .mp id b hb
  | vagg cs vs g hn hg _ ih => exact .vagg cs vs g hn hg fun i x hx => ih i x hx (flatVL_get (by simpa [Lw.flatV] using hf) hx)
  | vtup cs vs g hn hg _ ih => exact .vtup cs vs g hn hg fun i x hx => ih i x hx (flatVL_get (by simpa [Lw.flatV] using hf) hx)
  | vclo fn cs vs g hn hg _ ih => exact .vclo fn cs vs g hn hg fun i x hx => ih i x hx (flatVL_get (by simpa [Lw.flatV] using hf) hx)
  | when g x v _ hfl ih => exact .when g x v (fun e => ih e (by simpa [Lw.flatV] using hf)) hfl
def flatS (st : St) : St := { slots := st.slots.map fun p => (p.1, bif flatV p.2 then p.2 else .any), objs := [] }

section
variable {C : Ctx} {P : Program} {nt : Nat} {st st' : St} {ok : Nat → Prop} {h : Nat → Hd} {a : Act} {w : World} {o : Oper} {x : V} {p : Prop} {K : St → Prop} {Q : Exit → St → Prop} {ops : Array Oper} {listed : Array Bool} {fuel i : Nat}

theorem pure_sound (r : Rep C st ok h a w) (he : ro C.P (fun g => ev g (flatS st)) true [] o.op = some (x, p)) (hp : p) (hx : flatV x = true) : ∃ v, RdV w ok h x v ∧ ∀ w', (execOp a.eval o).run C.P w' = .ok (.value v) w' := by
  let w1 : World := { w with heap := #[] }
  have r' : Rep { C with w0 := w1 } (flatS st) (fun _ => False) h a w1 := by
    refine ⟨⟨rfl, rfl, rfl, Nat.le_refl _, fun _ _ _ => rfl, (fun k hk => hk.elim), (fun id o hl => by simp [flatS, look] at hl), (fun id o b hl => by simp [flatS, look] at hl), (fun id id' o o' b hl => by simp [flatS, look] at hl)⟩, r.defers, r.nt, r.pin, fun j y hy => ?_⟩
    simp only [flatS] at hy
    rw [look_map (f := fun v => bif flatV v then v else V.any)] at hy
    obtain ⟨z, h1, h2⟩ := Option.map_eq_some_iff.1 hy
    obtain ⟨h3, v, h4, h5⟩ := r.slot j z h1
    refine ⟨h3, v, h4, ?_⟩
    subst h2
    cases hz : flatV z with
    | true => exact h5.flatV hz
    | false => exact .any v
  obtain ⟨v, h1, h2⟩ := ro_sound (C := { C with w0 := w1 }) r' (fun g hg x y => ev_sound hg r') (st := flatS st) he hp
  exact ⟨v, h1.flatV hx, fun w' => h2 w' fun b hb => absurd hb (Nat.not_lt_zero _)⟩

/-- Whatever order is picked from here on. -/
def anyW (C : Ctx) (ops : Array Oper) (fuel : Nat) (listed : Array Bool) (st : St) (K : St → Prop) : Prop :=
  ∀ a w, Reps C st a w → ∀ Q : Exit → Act → World → Prop, (∀ a' w' st', K st' → Reps C st' a' w' → Q .normal a' w') → (∀ c a w, ¬ Q (.panic c) a w) → wpAny C.P .any ops Q fuel listed a w
def stepW (C : Ctx) (ops : Array Oper) (i : Nat) (st : St) (K : St → Prop) : Prop :=
  ∀ a w, Reps C st a w → ∀ (Q : Exit → Act → World → Prop) (K' : Act → World → Prop), (∀ a' w' st', K st' → Reps C st' a' w' → K' a' w') → wpOp C.P ops Q i K' a w

theorem anyW_done (hr : Region.ready .any ops listed = []) (hk : K st) : anyW C ops fuel listed st K := fun a w r _ hQ _ => wpAny_done hr (hQ a w st hk r) fuel
theorem anyW_pure (hi : ops[i]? = some o) (hB : (Region.noSelect ops && Region.free .any ops listed i && (Region.ready .any ops listed).contains i) = true) (hg : o.guard = none)
    (he : ro C.P (fun g => ev g (flatS st)) true [] o.op = some (x, p)) (hp : p) (hx : flatV x = true) (hd : dstB C.nt o.dst = true) (hk : anyW C ops fuel (listed.setIfInBounds i true) (st.put o.dst x) K) : anyW C ops (fuel + 1) listed st K := by
  intro a w ⟨ok, h, r⟩ Q hQ hn
  simp only [Bool.and_eq_true] at hB
  obtain ⟨v, h1, h2⟩ := pure_sound r he hp hx
  exact wpAny_take (v := v) hi hB.1.1 hB.1.2 hB.2 (fun c a w hq => absurd hq (hn _ _ _)) (.inl ⟨by simp [Region.wanted, hg], h2⟩) (hk _ w ⟨ok, h, r.put (dstB_spec hd) h1⟩ Q hQ hn)
theorem anyW_move {y : Operand} (hi : ops[i]? = some o) (hB : (Region.noSelect ops && Region.free .any ops listed i && (Region.ready .any ops listed).contains i) = true) (hg : o.guard = none)
    (ho : o.op = .move y ∨ o.op = .assign y) (he : ev true st y = some x) (hd : dstB C.nt o.dst = true) (hk : anyW C ops fuel (listed.setIfInBounds i true) (st.put o.dst x) K) : anyW C ops (fuel + 1) listed st K := by
  intro a w ⟨ok, h, r⟩ Q hQ hn
  simp only [Bool.and_eq_true] at hB
  exact wpAny_take (v := a.eval y) hi hB.1.1 hB.1.2 hB.2 (fun c a w hq => absurd hq (hn _ _ _)) (.inl ⟨by simp [Region.wanted, hg], fun w' => by rcases ho with ho | ho <;> simp [execOp, ho]⟩) (hk _ w ⟨ok, h, r.put (dstB_spec hd) (ev_sound rfl r he)⟩ Q hQ hn)
def eachW (C : Ctx) (ops : Array Oper) (fuel : Nat) (listed : Array Bool) (st : St) (K : St → Prop) : List Nat → Prop
  | [] => True
  | [i] => stepW C ops i st fun st' => anyW C ops fuel (listed.setIfInBounds i true) st' K
  | i :: r => stepW C ops i st (fun st' => anyW C ops fuel (listed.setIfInBounds i true) st' K) ∧ eachW C ops fuel listed st K r
theorem eachW_mem : ∀ {rs : List Nat}, eachW C ops fuel listed st K rs → ∀ i ∈ rs, stepW C ops i st fun st' => anyW C ops fuel (listed.setIfInBounds i true) st' K
  | [], _, i, hi => by cases hi
  | [j], hx, i, hi => by
    obtain rfl : i = j := by simpa using hi
    exact hx
  | j :: k :: r, hx, i, hi => by
    cases hi with
    | head => exact hx.1
    | tail _ hi => exact eachW_mem hx.2 i hi
theorem anyW_all (rs : List Nat) (hr : Region.ready .any ops listed = rs) (hne : rs.isEmpty = false) (hx : eachW C ops fuel listed st K rs) : anyW C ops (fuel + 1) listed st K := by
  intro a w r Q hQ hn
  refine wpAny_all hr (fun e => by rw [e] at hne; cases hne) fun i hi => ?_
  exact eachW_mem hx i hi a w r Q _ fun a' w' st' hk r' => hk a' w' r' Q hQ hn
theorem stepW_eval (hc : CtxOk C) (hnt : nt = C.nt) (hi : ops[i]? = some o) (he : Ends (step1 C.P nt ops false o (.go st True)) st' p []) (hp : p) (hk : K st') : stepW C ops i st K := by
  intro a w ⟨ok, h, r⟩ Q K' hQ
  unfold wpOp
  rw [hi]
  simp only
  rcases step1_cases (P := C.P) (nt := nt) (ops := ops) (quiet := false) (o := o) (st := st) (q := True) with ⟨g, x, r1, h1, h2, h3, e⟩ | ⟨_, s1, r1, h1, h2, e⟩ | ⟨h1, h2, e⟩ | e | e <;> rw [e] at he
  · obtain ⟨rfl, rfl, _⟩ := he
    rw [wanted_of r h1]
    by_cases hg : g = true
    · rw [if_pos hg]
      obtain ⟨v, h4, h5⟩ := ro_sound r (fun g hg x y => ev_sound hg r) (hg ▸ h2) (hp.2 hg)
      left
      unfold Oper.wp
      rw [h5 w (fun _ _ => rfl)]
      exact hQ _ _ _ hk ⟨ok, h, r.put (dstB_spec (hnt ▸ h3)) (whenE_yes hg h4)⟩
    · rw [if_neg hg]
      exact hQ _ _ _ hk ⟨ok, h, r.put (dstB_spec (hnt ▸ h3)) (whenE_one h1 (by simpa using hg))⟩
  · obtain ⟨rfl, rfl, _⟩ := he
    rw [wanted_of r h1, if_pos rfl]
    obtain ⟨v, w', ok', h', hr, u, hu, r'⟩ := memE_sound hc hnt h2 ok h a w r hp.2
    left
    unfold Oper.wp
    rw [hr]
    rcases hu with rfl | ⟨rfl, rfl⟩ <;> exact hQ _ _ _ hk ⟨ok', h', r'⟩
  · obtain ⟨rfl, rfl, _⟩ := he
    rw [wanted_of r h1, if_neg (by simp)]
    exact hQ _ _ _ hk ⟨ok, h, r.put (dstB_spec (hnt ▸ h2)) (.any _)⟩
  · exact absurd he.2.2 (by simp)
  · exact he.elim

theorem run_anyP (i : Nat) (hc : CtxIs C P nt) (hi : ops[i]? = some o) (hB : (Region.noSelect ops && Region.free .any ops listed i && (Region.ready .any ops listed).contains i) = true) (hg : o.guard = none)
    (he : Gives (ro P (fun g => ev g (flatS st)) true [] o.op) (x, p)) (hp : p) (hx : flatV x = true) (hd : dstB nt o.dst = true) {st2 : St} (h2 : Gives (some (st.put o.dst x)) st2) (hk : anyW C ops fuel (listed.setIfInBounds i true) st2 K) : anyW C ops (fuel + 1) listed st K := by
  obtain ⟨rfl, rfl, hok⟩ := hc
  cases h2
  exact anyW_pure hi hB hg he hp hx hd hk
theorem run_anyM (i : Nat) {y : Operand} (hc : CtxIs C P nt) (hi : ops[i]? = some o) (hB : (Region.noSelect ops && Region.free .any ops listed i && (Region.ready .any ops listed).contains i) = true) (hg : o.guard = none)
    (ho : o.op = .move y ∨ o.op = .assign y) (he : Gives (ev true st y) x) (hd : dstB nt o.dst = true) {st2 : St} (h2 : Gives (some (st.put o.dst x)) st2) (hk : anyW C ops fuel (listed.setIfInBounds i true) st2 K) : anyW C ops (fuel + 1) listed st K := by
  obtain ⟨rfl, rfl, hok⟩ := hc
  cases h2
  exact anyW_move hi hB hg ho he hd hk
theorem run_stepW (hc : CtxIs C P nt) (hi : ops[i]? = some o) (he : Ends (step1 P nt ops false o (.go st True)) st' p []) (hp : p) (hk : K st') : stepW C ops i st K := by
  obtain ⟨rfl, rfl, hok⟩ := hc
  exact stepW_eval hok rfl hi he hp hk
theorem run_drawAny (n : Nat) {st1 : St} {id : Nat} {l : List Oper} (hc : CtxIs C P nt) (hm : P.follows .mixedOrders = true) (hn : l.length = n) (hl : anyW C l.toArray n (Array.replicate n false) st fun st' => Le C st1 st') (hk : Q .normal st1) : ewp C (.region id l.toArray true) Q st := by
  obtain ⟨rfl, rfl, hok⟩ := hc
  subst hn
  rintro a w ⟨ok, h, r⟩
  refine wp_mono (Q := fun e a' w' => e = .normal ∧ Reps C st1 a' w') (wp_region_any hm (hl a _ ⟨ok, h, ?_⟩ _ (fun a' w' st' hle r' => ⟨rfl, hle a' w' r'⟩) fun c a w hq => by cases hq.1)) ?_
  · exact r.below hok ((Below.refl _ w).drew)
  · rintro e a' w' ⟨rfl, r'⟩
    exact ⟨st1, hk, r'⟩
end
theorem opsW_le {C : Ctx} {ops : Array Oper} {l : List Oper} {st st' : St} {K : St → Prop} (hl : Le C st' st) (hx : opsW C ops l st' K) : opsW C ops l st K := fun a w r Q hQ => hx a w (hl a w r) Q hQ
theorem run_sealW (id : Nat) {C : Ctx} {P : Program} {nt : Nat} {ops : Array Oper} {l : List Oper} {st st2 : St} {q : Prop} {K : St → Prop} (hc : CtxIs C P nt) (he : Gives (sealE id st) (st2, q)) (hp : q) (hk : opsW C ops l st2 K) : opsW C ops l st K := opsW_le (le_seal id hc he hp (Le.refl _ _)) hk
/-- No operation that writes or makes memory. -/
def noWrite (l : List Oper) : Bool := l.all fun o => match o.op with | .store .. | .alloc .. | .box .. | .mapUpdate .. | .insert .. | .entryStore .. | .buildSlice .. => false | _ => true
theorem run_drawN {C : Ctx} {P : Program} {nt : Nat} {st st' : St} {p : Prop} {Q : Exit → St → Prop} {l l' : List Oper} {id : Nat} (hc : CtxIs C P nt) (hm : P.follows .mixedOrders = true) (hS : noWrite l = true) (hB : Region.lexB .any l.toArray = true) (he : Ends (runL P nt l.toArray true l (.go st True)) st' p l') (hp : p) (hk : quietW C l.toArray l' st' fun st' => Q .normal st') : ewp C (.region id l.toArray true) Q st := run_drawW hc hm hB he hp hk
theorem Zn {C : Ctx} {P : Program} {nt : Nat} {st st' : St} {p : Prop} {Q : Exit → St → Prop} {l l' : List Oper} {id : Nat} (hc : CtxIs C P nt) (hm : P.follows .mixedOrders = true := by kernel_rfl) (hS : noWrite l = true := by decide) (hB : Region.lexB .any l.toArray = true := by kernel_rfl) (he : Ends (runL P nt l.toArray true l (.go st True)) st' p l' := by simp; exact Ends.halt) (hp : p := by first | exact True.intro | omega | assumption | (simp; done) | (simp; omega) | (simp at *; omega)) (hk : quietW C l.toArray l' st' fun st' => Q .normal st') : ewp C (.region id l.toArray true) Q st := run_drawN hc hm hS hB he hp hk
attribute [simp] flatV flatVL flatS eachW

/-! What reads as the one, reads as the other. -/
def Weak (d d' : D) : Prop := ∀ (w : World) (ok : Nat → Prop) (v : Value), RdD w ok d v → RdD w ok d' v
theorem Weak.refl (d : D) : Weak d d := fun _ _ _ h => h
theorem weak_nil (f : Nat → List D) : Weak (.lit (.slice none 0 0)) (.sl 0 f) := fun w ok v h => by
  cases h
  exact .sl 0 f none 0 0 0 0 (fun _ _ => undef) (by omega) (Nat.zero_le _) (fun h => by omega) (fun i hi => by omega) (fun i k hi => by omega) (fun i k d hi => by omega)
theorem weak_sl {n : Nat} {f g : Nat → List D} (hl : ∀ i, i < n → (g i).length = (f i).length) (hw : ∀ (i k : Nat) (d : D), i < n → (g i)[k]? = some d → ∃ d0, (f i)[k]? = some d0 ∧ Weak d0 d) : Weak (.sl n f) (.sl n g) := fun w ok v h => by
  cases h with
  | sl _ _ A cap size b off gg hc hm hA hl' hg hr =>
    refine .sl n g A cap size b off gg hc hm hA (fun i hi => by rw [hl i hi]; exact hl' i hi) hg fun i k d hi hk => ?_
    obtain ⟨d0, h1, h2⟩ := hw i k d hi hk
    exact h2 _ _ _ (hr i k d0 hi h1)
theorem weak_tup {cs ds : List D} (hl : ds.length = cs.length) (hw : ∀ (k : Nat) (d : D), ds[k]? = some d → ∃ d0, cs[k]? = some d0 ∧ Weak d0 d) : Weak (.tup cs) (.tup ds) := fun w ok v h => by
  cases h with
  | tup _ vs g hn hg hr =>
    refine .tup ds vs g (by omega) (fun i hi => hg i (by omega)) fun i d hd => ?_
    obtain ⟨d0, h1, h2⟩ := hw i d hd
    exact h2 _ _ _ (hr i d0 h1)
theorem FnOk.weak {P : Program} {f : FuncId} {args : List D} {res res' : D} (h : FnOk P f args res) (hw : Weak res res') : FnOk P f args res' :=
  ⟨h.1, fun ok w vs h1 h2 h3 => (h.2 ok w vs h1 h2 h3).mono fun _ _ ⟨v, h4, h5, h6⟩ => ⟨v, h4, h5, hw _ _ _ h6⟩⟩
/-! Guarded operations and calls, in whatever order; a call that is not wanted. -/
section
variable {C : Ctx} {P : Program} {nt : Nat} {st st' : St} {o : Oper} {x : V} {p : Prop} {K : St → Prop} {ops : Array Oper} {listed : Array Bool} {fuel i : Nat}
end
section
variable {C : Ctx} {P : Program} {nt : Nat} {st : St}
/-- A call that is not wanted. -/
theorem run_skip (hc : CtxIs C P nt) {o : Oper} {ops : Array Oper} {rest : List Oper} {K : St → Prop} (hw : Gives (gE ops o st) false) (hd : dstB nt o.dst = true) (hk : opsW C ops rest (st.put o.dst .any) K) : opsW C ops (o :: rest) st K := by
  obtain ⟨rfl, rfl, hok⟩ := hc
  exact opsW_skip hw hd hk
end
end Go.Lw
