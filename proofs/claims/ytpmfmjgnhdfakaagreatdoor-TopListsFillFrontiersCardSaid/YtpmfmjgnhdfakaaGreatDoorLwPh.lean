/-
  A REGION THAT DRAWS ITS ORDER, whose head only reads (or calls) and whose tail is one chain of operations that may write.
-/
import Derived.Test.YtpmfmjgnhdfakaaGreatDoorLwRun
import Derived.StillTail
set_option linter.unusedSimpArgs false
set_option linter.unusedVariables false
namespace Go.Lw
open Go Go.RowKit

section
variable {P : Program} {ops : Array Oper} {md : Region.Mode} {C : World → Prop}

def headQ (P : Program) (md : Region.Mode) (ops : Array Oper) (C : World → Prop) (n : Nat) (L : Array Bool → Act → Prop) : Nat → Array Bool → Act → Prop
  | 0, listed, a => L listed a
  | f + 1, listed, a => Region.ready md ops listed ≠ [] ∧ ∀ i ∈ Region.ready md ops listed, i < n ∧ qOp P ops C i (headQ P md ops C n L f (listed.setIfInBounds i true)) a

theorem any_of_headQ {n g : Nat} {L : Array Bool → Act → Prop} {Q' : Exit → Act → World → Prop} (hL : ∀ listed a w, C w → L listed a → wpAny P md ops Q' g listed a w) :
    ∀ (f : Nat) (listed : Array Bool) (a : Act) (w : World), C w → headQ P md ops C n L f listed a → wpAny P md ops Q' (f + g) listed a w
  | 0, listed, a, w, hw, h => by rw [Nat.zero_add]; exact hL _ _ _ hw h
  | f + 1, listed, a, w, hw, h => by
    rw [show f + 1 + g = (f + g) + 1 by omega]
    exact ⟨fun h0 => absurd h0 h.1, fun i hi => wpOp_of_qOp hw (fun a' w' hw' h' => any_of_headQ hL f _ a' w' hw' h') (h.2 i hi).2⟩

theorem headQ_first {n i : Nat} {oi : Oper} {v : Value} {L : Array Bool → Act → Prop} (hi : ops[i]? = some oi) (hsel : ∀ (j : Nat) (o : Oper) cs b, ops[j]? = some o → o.op ≠ .select cs b)
    (hs : Region.sinkB md ops n = true) (hc : Region.chainB md ops n = true) (hn : n < ops.size) (hin : i < n)
    (hdone : ∀ listed a, L listed a → ∀ j ∈ Region.ready md ops listed, n ≤ j) :
    ∀ (f : Nat) (listed : Array Bool) (a : Act), HeadInv md ops n listed →
      (∀ j oj, ops[j]? = some oj → j ≠ i → listed.getD j true = false → (∀ e ∈ oj.after, Region.binds md e = true → e.on ≠ i) → oi.apart ops oj = true) →
      i ∈ Region.ready md ops listed → YieldsIn P ops C oi v a →
      headQ P md ops C n L f (listed.setIfInBounds i true) (a.put oi.dst v) → headQ P md ops C n L (f + 1) listed a := by
  intro f
  induction f with
  | zero =>
    intro listed a inv _ hr hy H
    have hun := (mem_ready.1 hr).1
    refine ⟨fun h => (by rw [h] at hr; cases hr), fun j hj => ?_⟩
    have hjn : j < n := by
      rcases Nat.lt_or_ge j n with h | h
      · exact h
      · exact absurd hj (tail_waits hs hc hn inv _ i rfl hin hun j h)
    refine ⟨hjn, ?_⟩
    by_cases hji : j = i
    · subst hji; exact hy.qOp hi H
    · have := hdone _ _ H j (ready_mono hj hji)
      omega
  | succ f ih =>
    intro listed a inv hfree hr hy H
    have hun := (mem_ready.1 hr).1
    refine ⟨fun h => (by rw [h] at hr; cases hr), fun j hj => ?_⟩
    have hjn : j < n := by
      rcases Nat.lt_or_ge j n with h | h
      · exact h
      · exact absurd hj (tail_waits hs hc hn inv _ i rfl hin hun j h)
    refine ⟨hjn, ?_⟩
    by_cases hji : j = i
    · subst hji; exact hy.qOp hi H
    · have h1 := (H.2 j (ready_mono hj hji)).2
      obtain ⟨hjun, oj, hoj, hall⟩ := mem_ready.1 hj
      have hnot : ∀ e ∈ oj.after, Region.binds md e = true → e.on ≠ i := fun e he hb heq => by
        have h1 := hall e he hb
        rw [heq, getD_both hun] at h1
        cases h1
      have h2 := qOp_put hoj (hfree j oj hoj hji hjun hnot) (fun cs b => hsel i oi cs b hi) (fun cs b => hsel j oj cs b hoj) hy h1
      have hfree' : ∀ k ok, ops[k]? = some ok → k ≠ i → (listed.setIfInBounds j true).getD k true = false →
          (∀ e ∈ ok.after, Region.binds md e = true → e.on ≠ i) → oi.apart ops ok = true := fun k ok hk hki hun hno => by
        refine hfree k ok hk hki ?_ hno
        by_cases hjk : j = k
        · subst hjk; exact hjun
        · rw [getD_set_ne true hjk] at hun; exact hun
      refine qOp_mono (fun a' h3 => ih (listed.setIfInBounds j true) a' (inv.set hj hjn) hfree' (ready_mono hr (Ne.symm hji)) h3.1 ?_) h2
      rw [Array.setIfInBounds_comm _ _ hji]
      exact h3.2

theorem headQ_lex {n g : Nat} {Lq : Act → Prop} (hsel : Region.noSelect ops = true) (hs : Region.sinkB md ops n = true) (hc : Region.chainB md ops n = true) (hn : n < ops.size) :
    ∀ (l : List Oper) (k : Nat) (listed : Array Bool) (a : Act), (∀ j, j < l.length → l[j]? = ops[k + j]?) → k + l.length = n → HeadInv md ops n listed →
    Region.lexHead md ops g l.length k listed = true → wpQuiet P ops C Lq l a →
    headQ P md ops C n (fun listed' a' => Region.seqB md ops g n listed' = true ∧ Lq a') l.length listed a
  | [], k, listed, a, _, hk, _, hB, h => by
    have : k = n := by simpa using hk
    subst this
    exact ⟨by simpa [Region.lexHead] using hB, h⟩
  | o :: l, k, listed, a, hl, hk, inv, hB, h => by
    have h0 : ops[k]? = some o := by simpa using (hl 0 (by simp)).symm
    simp only [List.length_cons, Region.lexHead, Bool.and_eq_true] at hB
    obtain ⟨⟨hr, hf⟩, hB'⟩ := hB
    have hkn : k < n := by simp only [List.length_cons] at hk; omega
    have hr' : k ∈ Region.ready md ops listed := by simpa using hr
    have hst : qOp P ops C k (wpQuiet P ops C Lq l) a := by unfold qOp; simp only [h0]; exact h
    obtain ⟨v, hy, hK⟩ := yieldsIn_of_qOp h0 hst
    exact headQ_first h0 (Region.noSelect_spec hsel) hs hc hn hkn (fun listed' a' hL => seqB_ready hL.1) l.length listed a inv (Region.free_spec h0 hf) hr' hy
      (headQ_lex hsel hs hc hn l (k + 1) _ _ (fun j hj => by have := hl (j + 1) (by simp; omega); simpa [Nat.add_assoc, Nat.add_comm 1 j] using this) (by simp only [List.length_cons] at hk; omega) (inv.set hr' hkn) hB' hK)

theorem wp_region_quiet_tail {id : Nat} {Q : Exit → Act → World → Prop} {a : Act} {w : World} {l : List Oper} (n : Nat) (hm : P.follows .mixedOrders = true) (hB : Region.lexTailB .any l.toArray n = true) (hC : C { w with drawn := w.drawn + 1 })
    (h : wpQuiet P l.toArray C (fun a' => ∀ w', C w' → wpList P l.toArray Q (l.drop n) a' w') (l.take n) a) : (Code.region id l.toArray true).wp P Q a w := by
  simp only [Region.lexTailB, Bool.and_eq_true, decide_eq_true_eq] at hB
  obtain ⟨⟨⟨⟨hsel, hn⟩, hs⟩, hc⟩, hlex⟩ := hB
  have hn' : n < l.length := by simpa using hn
  have htl : (l.take n).length = n := by simp; omega
  have hdl : (l.drop n).length = l.toArray.size - n := by simp
  have inv0 : HeadInv .any l.toArray n (Array.replicate l.toArray.size false) :=
    ⟨by simp, fun j oj _ hl => (by rw [getD_replicate_false] at hl; cases hl), fun t _ ht => getD_in (by simpa using ht) (getD_replicate_false _ _)⟩
  have H := headQ_lex (md := .any) (g := l.toArray.size - n) hsel hs hc hn (l.take n) 0 _ a (fun j hj => by
    have hj' : j < n := by rw [htl] at hj; exact hj
    simp [hj']) (by simpa using htl) inv0 (by rw [htl]; exact hlex) h
  refine wp_region_any hm ?_
  have := any_of_headQ (Q' := Q) (g := l.toArray.size - n) (fun listed a' w' hw' hL => by
    have := wpAny_of_seq (md := .any) (Q' := Q) (l.drop n) n listed a' w' (fun j => by simp [List.getElem?_drop]) (by rw [hdl]; exact hL.1) (hL.2 w' hw')
    rwa [hdl] at this) _ _ _ _ hC H
  rw [htl, show n + (l.toArray.size - n) = l.toArray.size by omega] at this
  exact this
end

section
variable {C : Ctx} {P : Program} {nt : Nat} {st : St} {Q : Exit → St → Prop}
theorem run_drawT (n : Nat) {id : Nat} {l : List Oper} (hc : CtxIs C P nt) (hm : P.follows .mixedOrders = true) (hB : Region.lexTailB .any l.toArray n = true)
    (hl : quietW C l.toArray (l.take n) st fun st' => opsW C l.toArray (l.drop n) st' fun st'' => Q .normal st'') : ewp C (.region id l.toArray true) Q st := by
  obtain ⟨rfl, rfl, hok⟩ := hc
  rintro a w ⟨ok, h, r⟩
  refine wp_region_quiet_tail (C := fun w' => Below w.heap.size w w') n hm hB ((Below.refl _ w).drew) ?_
  refine (hl ok h a w r _ fun a' st' hq r' w' hw' => ?_).one (fam_below w)
  exact hq a' w' ⟨ok, h, r'.below hok hw'⟩ _ fun a'' w'' st'' hk r'' => ⟨st'', hk, r''⟩
end

/-! ALL ORDERS: operations that look at no memory are taken at once, the others in each order. -/
mutual
def flatV : V → Bool
  | .d x => flat x
  | .bp .. | .el .. | .os .. | .ot .. | .mp .. | .any => true
  | .vagg cs | .vtup cs | .vclo _ cs => flatVL cs
  | .when _ x => flatV x
def flatVL : List V → Bool
  | [] => true
  | x :: r => flatV x && flatVL r
end
theorem flatVL_get {cs : List V} (hf : flatVL cs = true) : ∀ {i : Nat} {x : V}, cs[i]? = some x → flatV x = true := by
  induction cs with
  | nil => intro i x hx; simp at hx
  | cons y r ih =>
    simp only [flatVL, Bool.and_eq_true] at hf
    intro i x hx
    cases i with
    | zero => cases hx; exact hf.1
    | succ i => exact ih hf.2 (by simpa using hx)
theorem RdV.flatV {w w' : World} {ok ok' : Nat → Prop} {h : Nat → Hd} {x : V} {v : Value} (hx : RdV w ok h x v) (hf : Lw.flatV x = true) : RdV w' ok' h x v := by
  induction hx with
  | d x v hx => exact .d x v (hx.flat (flat_of (by simpa [Lw.flatV] using hf)))
  | any v => exact .any v
  | bp id off b hb => exact .bp id off b hb
  | el id i off b hb => exact .el id i off b hb
  | os id n hc => exact .os id n hc
  | ot id lo n hc => exact .ot id lo n hc
  | mp id b hb => exact .mp id b hb
  | vagg cs vs g hn hg _ ih => exact .vagg cs vs g hn hg fun i x hx => ih i x hx (flatVL_get (by simpa [Lw.flatV] using hf) hx)
  | vtup cs vs g hn hg _ ih => exact .vtup cs vs g hn hg fun i x hx => ih i x hx (flatVL_get (by simpa [Lw.flatV] using hf) hx)
  | vclo fn cs vs g hn hg _ ih => exact .vclo fn cs vs g hn hg fun i x hx => ih i x hx (flatVL_get (by simpa [Lw.flatV] using hf) hx)
  | when g x v _ hfl ih => exact .when g x v (fun e => ih e (by simpa [Lw.flatV] using hf)) hfl
def flatS (st : St) : St := { slots := st.slots.map fun p => (p.1, bif flatV p.2 then p.2 else .any), objs := [] }

section
variable {C : Ctx} {P : Program} {nt : Nat} {st st' : St} {ok : Nat → Prop} {h : Nat → Hd} {a : Act} {w : World} {o : Oper} {x : V} {p : Prop} {K : St → Prop} {Q : Exit → St → Prop} {ops : Array Oper} {listed : Array Bool} {fuel i : Nat}

theorem pure_sound (r : Rep C st ok h a w) (he : ro C.P (fun g => ev g (flatS st)) true [] o.op = some (x, p)) (hp : p) (hx : flatV x = true) : ∃ v, RdV w ok h x v ∧ ∀ w', (execOp a.eval o).run C.P w' = .ok (.value v) w' := by
  let w1 : World := { w with heap := #[] }
  have r' : Rep { C with w0 := w1 } (flatS st) (fun _ => False) h a w1 := by
    refine ⟨⟨rfl, rfl, rfl, Nat.le_refl _, fun _ _ _ => rfl, (fun k hk => hk.elim), (fun id o hl => by simp [flatS, look] at hl), (fun id o b hl => by simp [flatS, look] at hl), (fun id id' o o' b hl => by simp [flatS, look] at hl)⟩, r.defers, r.nt, r.pin, fun j y hy => ?_⟩
    simp only [flatS] at hy
    rw [look_map (f := fun v => bif flatV v then v else V.any)] at hy
    obtain ⟨z, h1, h2⟩ := Option.map_eq_some_iff.1 hy
    obtain ⟨h3, v, h4, h5⟩ := r.slot j z h1
    refine ⟨h3, v, h4, ?_⟩
    subst h2
    cases hz : flatV z with
    | true => exact h5.flatV hz
    | false => exact .any v
  obtain ⟨v, h1, h2⟩ := ro_sound (C := { C with w0 := w1 }) r' (fun g hg x y => ev_sound hg r') (st := flatS st) he hp
  exact ⟨v, h1.flatV hx, fun w' => h2 w' fun b hb => absurd hb (Nat.not_lt_zero _)⟩

/-- Whatever order is picked from here on. -/
def anyW (C : Ctx) (ops : Array Oper) (fuel : Nat) (listed : Array Bool) (st : St) (K : St → Prop) : Prop :=
  ∀ a w, Reps C st a w → ∀ Q : Exit → Act → World → Prop, (∀ a' w' st', K st' → Reps C st' a' w' → Q .normal a' w') → (∀ c a w, ¬ Q (.panic c) a w) → wpAny C.P .any ops Q fuel listed a w
def stepW (C : Ctx) (ops : Array Oper) (i : Nat) (st : St) (K : St → Prop) : Prop :=
  ∀ a w, Reps C st a w → ∀ (Q : Exit → Act → World → Prop) (K' : Act → World → Prop), (∀ a' w' st', K st' → Reps C st' a' w' → K' a' w') → wpOp C.P ops Q i K' a w

theorem anyW_done (hr : Region.ready .any ops listed = []) (hk : K st) : anyW C ops fuel listed st K := fun a w r _ hQ _ => wpAny_done hr (hQ a w st hk r) fuel
theorem anyW_pure (hi : ops[i]? = some o) (hB : (Region.noSelect ops && Region.free .any ops listed i && (Region.ready .any ops listed).contains i) = true) (hg : o.guard = none)
    (he : ro C.P (fun g => ev g (flatS st)) true [] o.op = some (x, p)) (hp : p) (hx : flatV x = true) (hd : dstB C.nt o.dst = true) (hk : anyW C ops fuel (listed.setIfInBounds i true) (st.put o.dst x) K) : anyW C ops (fuel + 1) listed st K := by
  intro a w ⟨ok, h, r⟩ Q hQ hn
  simp only [Bool.and_eq_true] at hB
  obtain ⟨v, h1, h2⟩ := pure_sound r he hp hx
  exact wpAny_take (v := v) hi hB.1.1 hB.1.2 hB.2 (fun c a w hq => absurd hq (hn _ _ _)) (.inl ⟨by simp [Region.wanted, hg], h2⟩) (hk _ w ⟨ok, h, r.put (dstB_spec hd) h1⟩ Q hQ hn)
theorem anyW_move {y : Operand} (hi : ops[i]? = some o) (hB : (Region.noSelect ops && Region.free .any ops listed i && (Region.ready .any ops listed).contains i) = true) (hg : o.guard = none)
    (ho : o.op = .move y ∨ o.op = .assign y) (he : ev true st y = some x) (hd : dstB C.nt o.dst = true) (hk : anyW C ops fuel (listed.setIfInBounds i true) (st.put o.dst x) K) : anyW C ops (fuel + 1) listed st K := by
  intro a w ⟨ok, h, r⟩ Q hQ hn
  simp only [Bool.and_eq_true] at hB
  exact wpAny_take (v := a.eval y) hi hB.1.1 hB.1.2 hB.2 (fun c a w hq => absurd hq (hn _ _ _)) (.inl ⟨by simp [Region.wanted, hg], fun w' => by rcases ho with ho | ho <;> simp [execOp, ho]⟩) (hk _ w ⟨ok, h, r.put (dstB_spec hd) (ev_sound rfl r he)⟩ Q hQ hn)
def eachW (C : Ctx) (ops : Array Oper) (fuel : Nat) (listed : Array Bool) (st : St) (K : St → Prop) : List Nat → Prop
  | [] => True
  | [i] => stepW C ops i st fun st' => anyW C ops fuel (listed.setIfInBounds i true) st' K
  | i :: r => stepW C ops i st (fun st' => anyW C ops fuel (listed.setIfInBounds i true) st' K) ∧ eachW C ops fuel listed st K r
theorem eachW_mem : ∀ {rs : List Nat}, eachW C ops fuel listed st K rs → ∀ i ∈ rs, stepW C ops i st fun st' => anyW C ops fuel (listed.setIfInBounds i true) st' K
  | [], _, i, hi => by cases hi
  | [j], hx, i, hi => by
    obtain rfl : i = j := by simpa using hi
    exact hx
  | j :: k :: r, hx, i, hi => by
    cases hi with
    | head => exact hx.1
    | tail _ hi => exact eachW_mem hx.2 i hi
theorem anyW_all (rs : List Nat) (hr : Region.ready .any ops listed = rs) (hne : rs.isEmpty = false) (hx : eachW C ops fuel listed st K rs) : anyW C ops (fuel + 1) listed st K := by
  intro a w r Q hQ hn
  refine wpAny_all hr (fun e => by rw [e] at hne; cases hne) fun i hi => ?_
  exact eachW_mem hx i hi a w r Q _ fun a' w' st' hk r' => hk a' w' r' Q hQ hn
theorem stepW_eval (hc : CtxOk C) (hnt : nt = C.nt) (hi : ops[i]? = some o) (he : Ends (step1 C.P nt ops false o (.go st True)) st' p []) (hp : p) (hk : K st') : stepW C ops i st K := by
  intro a w ⟨ok, h, r⟩ Q K' hQ
  unfold wpOp
  rw [hi]
  simp only
  rcases step1_cases (P := C.P) (nt := nt) (ops := ops) (quiet := false) (o := o) (st := st) (q := True) with ⟨g, x, r1, h1, h2, h3, e⟩ | ⟨_, s1, r1, h1, h2, e⟩ | ⟨h1, h2, e⟩ | e | e <;> rw [e] at he
  · obtain ⟨rfl, rfl, _⟩ := he
    rw [wanted_of r h1]
    by_cases hg : g = true
    · rw [if_pos hg]
      obtain ⟨v, h4, h5⟩ := ro_sound r (fun g hg x y => ev_sound hg r) (hg ▸ h2) (hp.2 hg)
      left
      unfold Oper.wp
      rw [h5 w (fun _ _ => rfl)]
      exact hQ _ _ _ hk ⟨ok, h, r.put (dstB_spec (hnt ▸ h3)) (whenE_yes hg h4)⟩
    · rw [if_neg hg]
      exact hQ _ _ _ hk ⟨ok, h, r.put (dstB_spec (hnt ▸ h3)) (whenE_one h1 (by simpa using hg))⟩
  · obtain ⟨rfl, rfl, _⟩ := he
    rw [wanted_of r h1, if_pos rfl]
    obtain ⟨v, w', ok', h', hr, u, hu, r'⟩ := memE_sound hc hnt h2 ok h a w r hp.2
    left
    unfold Oper.wp
    rw [hr]
    rcases hu with rfl | ⟨rfl, rfl⟩ <;> exact hQ _ _ _ hk ⟨ok', h', r'⟩
  · obtain ⟨rfl, rfl, _⟩ := he
    rw [wanted_of r h1, if_neg (by simp)]
    exact hQ _ _ _ hk ⟨ok, h, r.put (dstB_spec (hnt ▸ h2)) (.any _)⟩
  · exact absurd he.2.2 (by simp)
  · exact he.elim

theorem run_anyP (i : Nat) (hc : CtxIs C P nt) (hi : ops[i]? = some o) (hB : (Region.noSelect ops && Region.free .any ops listed i && (Region.ready .any ops listed).contains i) = true) (hg : o.guard = none)
    (he : Gives (ro P (fun g => ev g (flatS st)) true [] o.op) (x, p)) (hp : p) (hx : flatV x = true) (hd : dstB nt o.dst = true) {st2 : St} (h2 : Gives (some (st.put o.dst x)) st2) (hk : anyW C ops fuel (listed.setIfInBounds i true) st2 K) : anyW C ops (fuel + 1) listed st K := by
  obtain ⟨rfl, rfl, hok⟩ := hc
  cases h2
  exact anyW_pure hi hB hg he hp hx hd hk
theorem run_anyM (i : Nat) {y : Operand} (hc : CtxIs C P nt) (hi : ops[i]? = some o) (hB : (Region.noSelect ops && Region.free .any ops listed i && (Region.ready .any ops listed).contains i) = true) (hg : o.guard = none)
    (ho : o.op = .move y ∨ o.op = .assign y) (he : Gives (ev true st y) x) (hd : dstB nt o.dst = true) {st2 : St} (h2 : Gives (some (st.put o.dst x)) st2) (hk : anyW C ops fuel (listed.setIfInBounds i true) st2 K) : anyW C ops (fuel + 1) listed st K := by
  obtain ⟨rfl, rfl, hok⟩ := hc
  cases h2
  exact anyW_move hi hB hg ho he hd hk
theorem run_stepW (hc : CtxIs C P nt) (hi : ops[i]? = some o) (he : Ends (step1 P nt ops false o (.go st True)) st' p []) (hp : p) (hk : K st') : stepW C ops i st K := by
  obtain ⟨rfl, rfl, hok⟩ := hc
  exact stepW_eval hok rfl hi he hp hk
theorem run_drawAny (n : Nat) {st1 : St} {id : Nat} {l : List Oper} (hc : CtxIs C P nt) (hm : P.follows .mixedOrders = true) (hn : l.length = n) (hl : anyW C l.toArray n (Array.replicate n false) st fun st' => Le C st1 st') (hk : Q .normal st1) : ewp C (.region id l.toArray true) Q st := by
  obtain ⟨rfl, rfl, hok⟩ := hc
  subst hn
  rintro a w ⟨ok, h, r⟩
  refine wp_mono (Q := fun e a' w' => e = .normal ∧ Reps C st1 a' w') (wp_region_any hm (hl a _ ⟨ok, h, ?_⟩ _ (fun a' w' st' hle r' => ⟨rfl, hle a' w' r'⟩) fun c a w hq => by cases hq.1)) ?_
  · exact r.below hok ((Below.refl _ w).drew)
  · rintro e a' w' ⟨rfl, r'⟩
    exact ⟨st1, hk, r'⟩
end
theorem opsW_le {C : Ctx} {ops : Array Oper} {l : List Oper} {st st' : St} {K : St → Prop} (hl : Le C st' st) (hx : opsW C ops l st' K) : opsW C ops l st K := fun a w r Q hQ => hx a w (hl a w r) Q hQ
theorem run_sealW (id : Nat) {C : Ctx} {P : Program} {nt : Nat} {ops : Array Oper} {l : List Oper} {st st2 : St} {q : Prop} {K : St → Prop} (hc : CtxIs C P nt) (he : Gives (sealE id st) (st2, q)) (hp : q) (hk : opsW C ops l st2 K) : opsW C ops l st K := opsW_le (le_seal id hc he hp (Le.refl _ _)) hk
/-- No operation that writes or makes memory. -/
def noWrite (l : List Oper) : Bool := l.all fun o => match o.op with | .store .. | .alloc .. | .box .. | .mapUpdate .. | .insert .. | .entryStore .. | .buildSlice .. => false | _ => true
theorem run_drawN {C : Ctx} {P : Program} {nt : Nat} {st st' : St} {p : Prop} {Q : Exit → St → Prop} {l l' : List Oper} {id : Nat} (hc : CtxIs C P nt) (hm : P.follows .mixedOrders = true) (hS : noWrite l = true) (hB : Region.lexB .any l.toArray = true) (he : Ends (runL P nt l.toArray true l (.go st True)) st' p l') (hp : p) (hk : quietW C l.toArray l' st' fun st' => Q .normal st') : ewp C (.region id l.toArray true) Q st := run_drawW hc hm hB he hp hk
theorem Zn {C : Ctx} {P : Program} {nt : Nat} {st st' : St} {p : Prop} {Q : Exit → St → Prop} {l l' : List Oper} {id : Nat} (hc : CtxIs C P nt) (hm : P.follows .mixedOrders = true := by kernel_rfl) (hS : noWrite l = true := by decide) (hB : Region.lexB .any l.toArray = true := by kernel_rfl) (he : Ends (runL P nt l.toArray true l (.go st True)) st' p l' := by simp; exact Ends.halt) (hp : p := by first | exact True.intro | omega | assumption | (simp; done) | (simp; omega) | (simp at *; omega)) (hk : quietW C l.toArray l' st' fun st' => Q .normal st') : ewp C (.region id l.toArray true) Q st := run_drawN hc hm hS hB he hp hk
attribute [simp] flatV flatVL flatS eachW

/-! What reads as the one, reads as the other. -/
def Weak (d d' : D) : Prop := ∀ (w : World) (ok : Nat → Prop) (v : Value), RdD w ok d v → RdD w ok d' v
theorem Weak.refl (d : D) : Weak d d := fun _ _ _ h => h
theorem weak_nil (f : Nat → List D) : Weak (.lit (.slice none 0 0)) (.sl 0 f) := fun w ok v h => by
  cases h
  exact .sl 0 f none 0 0 0 0 (fun _ _ => undef) (by omega) (Nat.zero_le _) (fun h => by omega) (fun i hi => by omega) (fun i k hi => by omega) (fun i k d hi => by omega)
/-! Guarded operations and calls, in whatever order; a call that is not wanted. -/
section
variable {C : Ctx} {P : Program} {nt : Nat} {st st' : St} {o : Oper} {x : V} {p : Prop} {K : St → Prop} {ops : Array Oper} {listed : Array Bool} {fuel i : Nat}
/-- An operation that looks at no memory, guarded or not, in whatever order. -/
theorem anyW_guard (hi : ops[i]? = some o) (hB : (Region.noSelect ops && Region.free .any ops listed i && (Region.ready .any ops listed).contains i) = true) {g : Bool} (hw : gE ops o st = some g)
    (he : ro C.P (fun g => ev g (flatS st)) g [] o.op = some (x, p)) (hp : g = true → p) (hx : flatV x = true) (hd : dstB C.nt o.dst = true) (hk : anyW C ops fuel (listed.setIfInBounds i true) (st.put o.dst (whenE o g x)) K) : anyW C ops (fuel + 1) listed st K := by
  intro a w ⟨ok, h, r⟩ Q hQ hn
  simp only [Bool.and_eq_true] at hB
  have hwt := wanted_of r hw
  by_cases hg : g = true
  · obtain ⟨v, h1, h2⟩ := pure_sound r (hg ▸ he) (hp hg) hx
    exact wpAny_take (v := v) hi hB.1.1 hB.1.2 hB.2 (fun c a w hq => absurd hq (hn _ _ _)) (.inl ⟨by rw [hwt, hg], h2⟩) (hk _ w ⟨ok, h, r.put (dstB_spec hd) (whenE_yes hg h1)⟩ Q hQ hn)
  · have hg' : g = false := by simpa using hg
    exact wpAny_take (v := undef) hi hB.1.1 hB.1.2 hB.2 (fun c a w hq => absurd hq (hn _ _ _)) (.inr ⟨by rw [hwt, hg'], rfl⟩) (hk _ w ⟨ok, h, r.put (dstB_spec hd) (whenE_one hw hg')⟩ Q hQ hn)
theorem run_anyG (i : Nat) (hc : CtxIs C P nt) (hi : ops[i]? = some o) (hB : (Region.noSelect ops && Region.free .any ops listed i && (Region.ready .any ops listed).contains i) = true) {g : Bool} (hw : Gives (gE ops o st) g)
    (he : Gives (ro P (fun g => ev g (flatS st)) g [] o.op) (x, p)) (hp : g = true → p) (hx : flatV x = true) (hd : dstB nt o.dst = true) {st2 : St} (h2 : Gives (some (st.put o.dst (whenE o g x))) st2) (hk : anyW C ops fuel (listed.setIfInBounds i true) st2 K) : anyW C ops (fuel + 1) listed st K := by
  obtain ⟨rfl, rfl, hok⟩ := hc
  cases h2
  exact anyW_guard hi hB hw he hp hx hd hk
/-- A call, in whatever order. -/
theorem stepW_call {x : Operand} {f : FuncId} {args : Array Operand} {ts : Array TypeId} {y : V} {xs caps : List V} {ds : List D} {b g : Bool} {res : D} (hc : CtxOk C) (hi : ops[i]? = some o)
    (hw : gE ops o st = some g) (ho : o.op = .call { callee := .value x, args := args, argTypes := ts }) (hy : ev g st x = some y) (hx : calleeE (some y) = some (f, caps)) (hl : evL g st args.toList = some xs) (ha : asDL st (xs ++ caps) = some (ds, b))
    (hf : g = true → FnOk C.P f ds res) (hb : b = false ∨ flat res = true) (hd : dstB C.nt o.dst = true) (hk : K (st.put o.dst (whenE o g (.d res)))) : stepW C ops i st K := by
  intro a w ⟨ok, h, r⟩ Q K' hQ
  unfold wpOp
  rw [hi]
  simp only
  rw [wanted_of r hw]
  by_cases hg : g = true
  rotate_left
  · rw [if_neg hg]
    exact hQ _ _ _ hk ⟨ok, h, r.put (dstB_spec hd) (whenE_one hw (by simpa using hg))⟩
  rw [if_pos hg]
  left
  replace hf := hf hg
  unfold Oper.wp
  obtain ⟨cs, h1, h2, h3⟩ := callArgs_sound hg r hx (ev_sound hg r hy) hl
  rw [Array.toArray_toList] at h2 h3
  rw [run_call hf.1 ho h1, Oper.upon_enter]
  refine (hf.2 (if b then withOwn ok h st else ok) w _ (fun k hk => ?_) (r.mem.std hc) (args_rd r ha h2 h3)).mono fun e w' ⟨v, he, hbl, hr⟩ => ?_
  · split at hk
    · rcases hk with hk | ⟨id, o1, h3, h4⟩
      · exact (r.mem.okb k hk).1
      · exact (r.mem.blk id o1 k h3 h4).1
    · exact (r.mem.okb k hk).1
  · subst he
    refine hQ _ _ _ hk ⟨fresh ok w w', h, ?_⟩
    have hr' : RdD w' (fresh ok w w') res v := by
      rcases hb with hb | hb
      · subst hb; exact hr
      · exact hr.flat (flat_of hb)
    have hmem := r.mem.below (ok' := fresh ok w w') hbl (fun b hb => .inl hb) (fun b hb => hb) hc.lt
    have r' : Rep C st (fresh ok w w') h a w' := ⟨hmem, r.defers, r.nt, r.pin, fun i y hy => by
      obtain ⟨h5, u, h6, h7⟩ := r.slot i y hy
      exact ⟨h5, u, h6, h7.mono (fun b hb => hbl.block b (r.mem.okb b hb).1) fun b hb => .inl hb⟩⟩
    exact r'.put (dstB_spec hd) (whenE_yes hg (.d _ _ hr'))
theorem run_stepC (hc : CtxIs C P nt) {x : Operand} {f : FuncId} {args : Array Operand} {ts : Array TypeId} {y : V} {xs caps : List V} {ds : List D} {b g : Bool} {res : D} (hi : ops[i]? = some o) (ho : o.op = .call { callee := .value x, args := args, argTypes := ts })
    (hw : Gives (gE ops o st) g) (hy : Gives (ev g st x) y) (hx : Gives (calleeE (some y)) (f, caps)) (hl : Gives (evL g st args.toList) xs) (ha : Gives (asDL st (xs ++ caps)) (ds, b)) (hf : g = true → FnOk P f ds res) (hb : (!b || flat res) = true) (hd : dstB nt o.dst = true)
    (hk : K (st.put o.dst (whenE o g (.d res)))) : stepW C ops i st K := by
  obtain ⟨rfl, rfl, hok⟩ := hc
  exact stepW_call hok hi hw ho hy hx hl ha hf (by cases b <;> simp_all) hd hk
end
section
variable {C : Ctx} {P : Program} {nt : Nat} {st : St}
/-- A call that is not wanted. -/
theorem run_skip (hc : CtxIs C P nt) {o : Oper} {ops : Array Oper} {rest : List Oper} {K : St → Prop} (hw : Gives (gE ops o st) false) (hd : dstB nt o.dst = true) (hk : opsW C ops rest (st.put o.dst .any) K) : opsW C ops (o :: rest) st K := by
  obtain ⟨rfl, rfl, hok⟩ := hc
  exact opsW_skip hw hd hk
end
end Go.Lw
/-
  A REGION THAT DRAWS ITS ORDER: a head that only reads or calls, ONE ALLOC that may come up at any time before, between or behind these, and a tail that is one chain.
-/
set_option linter.unusedSimpArgs false
set_option linter.unusedVariables false
namespace Go.Lw
open Go Go.RowKit

section
variable {P : Program} {ops : Array Oper} {F : (World → Prop) → Prop} {Q' : Exit → Act → World → Prop}

def headF (P : Program) (ops : Array Oper) (F : (World → Prop) → Prop) (n : Nat) (L : Array Bool → Act → Prop) : Nat → Array Bool → Act → Prop
  | 0, listed, a => L listed a
  | f + 1, listed, a => (∃ i ∈ Region.ready .any ops listed, i < n) ∧ ∀ i ∈ Region.ready .any ops listed, i = n ∨ (i < n ∧ ∃ o v, ops[i]? = some o ∧ (∀ D, F D → YieldsIn P ops D o v a) ∧ headF P ops F n L f (listed.setIfInBounds i true) (a.put o.dst v))

theorem headInv_more {n : Nat} {listed : Array Bool} (inv : HeadInv .any ops n listed) : HeadInv .any ops (n + 1) listed := ⟨inv.size, inv.closed, fun t h1 h2 => inv.tail t (by omega) h2⟩

theorem headF_first {n i : Nat} {oi : Oper} {v : Value} {L : Array Bool → Act → Prop} (hi : ops[i]? = some oi) (hsel : ∀ (j : Nat) (o : Oper) cs b, ops[j]? = some o → o.op ≠ .select cs b)
    (hs : Region.sinkB .any ops (n + 1) = true) (hc : Region.chainB .any ops (n + 1) = true) (hn : n + 1 < ops.size) (hin : i < n)
    (hdone : ∀ listed a, L listed a → ∀ j ∈ Region.ready .any ops listed, n ≤ j) :
    ∀ (f : Nat) (listed : Array Bool) (a : Act), HeadInv .any ops n listed →
      (∀ j oj, ops[j]? = some oj → j ≠ i → listed.getD j true = false → (∀ e ∈ oj.after, Region.binds .any e = true → e.on ≠ i) → oi.apart ops oj = true) →
      i ∈ Region.ready .any ops listed → (∀ D, F D → YieldsIn P ops D oi v a) →
      headF P ops F n L f (listed.setIfInBounds i true) (a.put oi.dst v) → headF P ops F n L (f + 1) listed a := by
  intro f
  induction f with
  | zero =>
    intro listed a inv _ hr hy H
    have hun := (mem_ready.1 hr).1
    refine ⟨⟨i, hr, hin⟩, fun j hj => ?_⟩
    have hjn : j < n + 1 := by
      rcases Nat.lt_or_ge j (n + 1) with h | h
      · exact h
      · exact absurd hj (tail_waits hs hc hn (headInv_more inv) _ i rfl (by omega) hun j h)
    by_cases hj' : j = n
    · exact .inl hj'
    refine .inr ⟨by omega, ?_⟩
    by_cases hji : j = i
    · subst hji; exact ⟨oi, v, hi, hy, H⟩
    · have := hdone _ _ H j (ready_mono hj hji)
      omega
  | succ f ih =>
    intro listed a inv hfree hr hy H
    have hun := (mem_ready.1 hr).1
    refine ⟨⟨i, hr, hin⟩, fun j hj => ?_⟩
    have hjn : j < n + 1 := by
      rcases Nat.lt_or_ge j (n + 1) with h | h
      · exact h
      · exact absurd hj (tail_waits hs hc hn (headInv_more inv) _ i rfl (by omega) hun j h)
    by_cases hj' : j = n
    · exact .inl hj'
    refine .inr ⟨by omega, ?_⟩
    by_cases hji : j = i
    · subst hji; exact ⟨oi, v, hi, hy, H⟩
    · rcases H.2 j (ready_mono hj hji) with h | ⟨_, oj', u, hoj', hyj, hF⟩
      · exact absurd h hj'
      obtain ⟨hjun, oj, hoj, hall⟩ := mem_ready.1 hj
      obtain rfl : oj' = oj := Option.some.inj (hoj'.symm.trans hoj)
      have hnot : ∀ e ∈ oj'.after, Region.binds .any e = true → e.on ≠ i := fun e he hb heq => by
        have h1 := hall e he hb
        rw [heq, getD_both hun] at h1
        cases h1
      obtain ⟨h1, h2, h3⟩ := Oper.apart_spec (hfree j oj' hoj hji hjun hnot)
      have hfree' : ∀ k ok, ops[k]? = some ok → k ≠ i → (listed.setIfInBounds j true).getD k true = false →
          (∀ e ∈ ok.after, Region.binds .any e = true → e.on ≠ i) → oi.apart ops ok = true := fun k ok hk hki hun hno => by
        refine hfree k ok hk hki ?_ hno
        by_cases hjk : j = k
        · subst hjk; exact hjun
        · rw [getD_set_ne true hjk] at hun; exact hun
      refine ⟨oj', u, hoj, fun D hD => (hyj D hD).of_same (execOp_put oj' (fun cs b => hsel j oj' cs b hoj) a oi.dst v h1).symm (wanted_put oj' a oi.dst v h1).symm, ?_⟩
      refine ih (listed.setIfInBounds j true) (a.put oj'.dst u) (inv.set hj (by omega)) hfree' (ready_mono hr (Ne.symm hji)) (fun D hD => (hy D hD).of_same (execOp_put oi (fun cs b => hsel i oi cs b hi) a oj'.dst u h3) (wanted_put oi a oj'.dst u h3)) ?_
      rw [Array.setIfInBounds_comm _ _ hji, ← Act.put_comm a v u h2]
      exact hF

theorem headF_lex {n g : Nat} {Lq : Act → Prop} (hsel : Region.noSelect ops = true) (hs : Region.sinkB .any ops (n + 1) = true) (hc : Region.chainB .any ops (n + 1) = true) (hn : n + 1 < ops.size) :
    ∀ (l : List Oper) (k : Nat) (listed : Array Bool) (a : Act), (∀ j, j < l.length → l[j]? = ops[k + j]?) → k + l.length = n → HeadInv .any ops n listed →
    Region.lexHead .any ops g l.length k listed = true → wpQuietF P ops F Lq l a →
    headF P ops F n (fun listed' a' => Region.seqB .any ops g n listed' = true ∧ HeadInv .any ops n listed' ∧ Lq a') l.length listed a
  | [], k, listed, a, _, hk, inv, hB, h => by
    have : k = n := by simpa using hk
    subst this
    exact ⟨by simpa [Region.lexHead] using hB, inv, h⟩
  | o :: l, k, listed, a, hl, hk, inv, hB, ⟨v, hy, hK⟩ => by
    have h0 : ops[k]? = some o := by simpa using (hl 0 (by simp)).symm
    simp only [List.length_cons, Region.lexHead, Bool.and_eq_true] at hB
    obtain ⟨⟨hr, hf⟩, hB'⟩ := hB
    have hkn : k < n := by simp only [List.length_cons] at hk; omega
    have hr' : k ∈ Region.ready .any ops listed := by simpa using hr
    exact headF_first h0 (Region.noSelect_spec hsel) hs hc hn hkn (fun listed' a' hL => seqB_ready hL.1) l.length listed a inv (Region.free_spec h0 hf) hr' hy
      (headF_lex hsel hs hc hn l (k + 1) _ _ (fun j hj => by have := hl (j + 1) (by simp; omega); simpa [Nat.add_assoc, Nat.add_comm 1 j] using this) (by simp only [List.length_cons] at hk; omega) (inv.set hr' hkn) hB' hK)

/-- What is asked of the operations ahead of the alloc. -/
def farB (ops : Array Oper) (n : Nat) (on : Oper) : Bool :=
  (List.range n).all fun i => match ops[i]? with
    | some o => !Region.waitsFor .any ops i n && on.apart ops o
    | none => false
theorem farB_spec {n : Nat} {on : Oper} (h : farB ops n on = true) {i : Nat} {o : Oper} (hi : i < n) (ho : ops[i]? = some o) : (∀ e ∈ o.after, Region.binds .any e = true → e.on ≠ n) ∧ on.apart ops o = true := by
  have := List.all_eq_true.1 h i (List.mem_range.2 hi)
  simp only [ho, Bool.and_eq_true, Bool.not_eq_true'] at this
  refine ⟨fun e he hb heq => ?_, this.2⟩
  have h1 := this.1
  unfold Region.waitsFor at h1
  simp only [ho] at h1
  have h2 : (o.after.any fun e => Region.binds .any e && e.on == n) = true := Array.any_eq_true'.2 ⟨e, he, by simp [hb, heq]⟩
  rw [h2] at h1
  cases h1

theorem wpOp_yields {D : World → Prop} {i : Nat} {o : Oper} {v : Value} {a : Act} {w : World} {K' : Act → World → Prop} (hi : ops[i]? = some o) (hy : YieldsIn P ops D o v a) (hw : D w) (h : ∀ w', D w' → K' (a.put o.dst v) w') : wpOp P ops Q' i K' a w :=
  wpOp_of_qOp (C := D) (K := fun a' => a' = a.put o.dst v) hw (fun a' w' hw' e => by subst e; exact h w' hw') (hy.qOp hi rfl)

/-- Behind the alloc. -/
theorem any_post {n g : Nat} {on : Oper} {vn : Value} {D : World → Prop} {Lq : Act → Prop} (hD : F D) (hon : ops[n]? = some on) (hsel : ∀ (j : Nat) (o : Oper) cs b, ops[j]? = some o → o.op ≠ .select cs b)
    (hs : Region.sinkB .any ops (n + 1) = true) (hc : Region.chainB .any ops (n + 1) = true) (hn : n + 1 < ops.size) (hfar : farB ops n on = true) (hg : g = (ops.toList.drop (n + 1)).length)
    (hL : ∀ a w', Lq a → D w' → wpList P ops Q' (ops.toList.drop (n + 1)) (a.put on.dst vn) w') :
    ∀ (f : Nat) (listed : Array Bool) (a : Act) (w : World), HeadInv .any ops n listed → (∀ e ∈ on.after, Region.binds .any e = true → listed.getD e.on false = true) → D w →
      headF P ops F n (fun listed' a' => Region.seqB .any ops (g + 1) n listed' = true ∧ HeadInv .any ops n listed' ∧ Lq a') f listed a → wpAny P .any ops Q' (f + g) (listed.setIfInBounds n true) (a.put on.dst vn) w
  | 0, listed, a, w, inv, hon', hw, h => by
    obtain ⟨h1, h2, h3⟩ := h
    simp only [Region.seqB, Bool.and_eq_true, decide_eq_true_eq] at h1
    rw [Nat.zero_add, hg]
    exact wpAny_of_seq _ (n + 1) _ _ _ (fun j => by simp [List.getElem?_drop]) (hg ▸ h1.2) (hL _ _ h3 hw)
  | f + 1, listed, a, w, inv, hon', hw, h => by
    obtain ⟨⟨i0, hi0, hi0n⟩, hall⟩ := h
    rw [show f + 1 + g = (f + g) + 1 by omega]
    have hr0 := ready_mono (i := n) hi0 (by omega)
    have hun0 := (mem_ready.1 hi0).1
    have hinv' : HeadInv .any ops (n + 1) (listed.setIfInBounds n true) := by
      refine ⟨by simp [inv.size], fun j oj hj hl e he hb => ?_, fun t h1 h2 => by rw [getD_set_ne true (by omega)]; exact inv.tail t (by omega) h2⟩
      by_cases hij : n = j
      · subst hij
        obtain rfl : oj = on := Option.some.inj (hj.symm.trans hon)
        exact getD_set_true (hon' e he hb)
      · rw [getD_set_ne false hij] at hl
        exact getD_set_true (inv.closed j oj hj hl e he hb)
    refine ⟨fun e => (by rw [e] at hr0; cases hr0), fun i hi => ?_⟩
    obtain ⟨hiun, oi, hoi, hdeps⟩ := mem_ready.1 hi
    have hin1 : i < n + 1 := by
      rcases Nat.lt_or_ge i (n + 1) with h | h
      · exact h
      · exact absurd hi (tail_waits hs hc hn hinv' _ i0 rfl (by omega) (by rw [getD_set_ne true (by omega)]; exact hun0) i h)
    have hne : i ≠ n := by
      rintro rfl
      have : i < listed.size := by rw [inv.size]; omega
      simp [this] at hiun
    have hin : i < n := by omega
    obtain ⟨hnw, hap⟩ := farB_spec hfar hin hoi
    have hir : i ∈ Region.ready .any ops listed := mem_ready.2 ⟨by rw [getD_set_ne true (Ne.symm hne)] at hiun; exact hiun, oi, hoi, fun e he hb => by
      have := hdeps e he hb
      rwa [getD_set_ne false (Ne.symm (hnw e he hb))] at this⟩
    rcases hall i hir with e | ⟨_, o, v, ho, hy, hF⟩
    · exact absurd e hne
    obtain rfl : o = oi := Option.some.inj (ho.symm.trans hoi)
    obtain ⟨h1, h2, h3⟩ := Oper.apart_spec hap
    refine wpOp_yields (D := D) (v := v) hoi ((hy D hD).of_same (execOp_put o (fun cs b => hsel i o cs b hoi) a on.dst vn h1) (wanted_put o a on.dst vn h1)) hw fun w' hw' => ?_
    rw [Array.setIfInBounds_comm _ _ (Ne.symm hne), Act.put_comm a vn v h2]
    exact any_post hD hon hsel hs hc hn hfar hg hL f _ _ w' (inv.set hir hin) (fun e he hb => getD_set_true (hon' e he hb)) hw' hF

/-- Before the alloc. -/
theorem any_pre {n g : Nat} {on : Oper} {w0 : World} {Lq : Act → Prop} (hon : ops[n]? = some on) (hgd : on.guard = none) (hsel : ∀ (j : Nat) (o : Oper) cs b, ops[j]? = some o → o.op ≠ .select cs b)
    (hs : Region.sinkB .any ops (n + 1) = true) (hc : Region.chainB .any ops (n + 1) = true) (hn : n + 1 < ops.size) (hfar : farB ops n on = true) (hg : g = (ops.toList.drop (n + 1)).length)
    (hrun : ∀ w, ∃ v w1, (∀ ev, (execOp ev on).run P w = .ok (.value v) w1) ∧ Below w.heap.size w w1)
    (hL : ∀ a w v w1 w', Lq a → Below w0.heap.size w0 w → (∀ ev, (execOp ev on).run P w = .ok (.value v) w1) → Below w1.heap.size w1 w' → wpList P ops Q' (ops.toList.drop (n + 1)) (a.put on.dst v) w') :
    ∀ (f : Nat) (listed : Array Bool) (a : Act) (w : World), HeadInv .any ops n listed → Below w0.heap.size w0 w →
      headF P ops (Fam w0) n (fun listed' a' => Region.seqB .any ops (g + 1) n listed' = true ∧ HeadInv .any ops n listed' ∧ Lq a') f listed a → wpAny P .any ops Q' (f + g + 1) listed a w := by
  have take : ∀ (f : Nat) (listed : Array Bool) (a : Act) (w : World), HeadInv .any ops n listed → (∀ e ∈ on.after, Region.binds .any e = true → listed.getD e.on false = true) → Below w0.heap.size w0 w →
      headF P ops (Fam w0) n (fun listed' a' => Region.seqB .any ops (g + 1) n listed' = true ∧ HeadInv .any ops n listed' ∧ Lq a') f listed a →
      wpOp P ops Q' n (wpAny P .any ops Q' (f + g) (listed.setIfInBounds n true)) a w := by
    intro f listed a w inv hdeps hw h
    obtain ⟨v, w1, hv, hb⟩ := hrun w
    unfold wpOp
    simp only [hon]
    rw [if_pos (by simp [Region.wanted, hgd])]
    left
    unfold Oper.wp
    rw [hv]
    have h01 : Below w0.heap.size w0 w1 := hw.trans (hb.mono hw.size)
    exact any_post (F := Fam w0) (D := fun w' => Below w1.heap.size w1 w') ⟨fun w' h' => h01.trans (h'.mono h01.size), fun _ _ h k => h.trans (k.mono h.size)⟩ hon hsel hs hc hn hfar hg
      (fun a' w' ha' hw' => hL a' w v w1 w' ha' hw hv hw') f listed a w1 inv hdeps (Below.refl _ _) h
  intro f
  induction f with
  | zero =>
    intro listed a w inv hw h
    have h1 := h.1
    simp only [Region.seqB, Bool.and_eq_true, decide_eq_true_eq] at h1
    refine ⟨fun e => (by rw [e] at h1; cases h1.1), fun i hi => ?_⟩
    rw [h1.1] at hi
    obtain rfl : i = n := by simpa using hi
    obtain ⟨_, o, ho, hdeps⟩ := mem_ready.1 (show i ∈ Region.ready .any ops listed by rw [h1.1]; simp)
    obtain rfl : o = on := Option.some.inj (ho.symm.trans hon)
    exact take 0 listed a w inv hdeps hw h
  | succ f ih =>
    intro listed a w inv hw h
    obtain ⟨⟨i0, hi0, hi0n⟩, hall⟩ := h
    rw [show f + 1 + g + 1 = (f + 1 + g) + 1 by omega]
    refine ⟨fun e => (by rw [e] at hi0; cases hi0), fun i hi => ?_⟩
    rcases hall i hi with e | ⟨hin, o, v, ho, hy, hF⟩
    · subst e
      obtain ⟨_, o, ho, hdeps⟩ := mem_ready.1 hi
      obtain rfl : o = on := Option.some.inj (ho.symm.trans hon)
      exact take (f + 1) listed a w inv hdeps hw ⟨⟨i0, hi0, hi0n⟩, hall⟩
    · refine wpOp_yields (D := fun w' => Below w0.heap.size w0 w') ho (hy _ (fam_below w0)) hw fun w' hw' => ?_
      rw [show f + 1 + g = f + g + 1 by omega]
      exact ih _ _ w' (inv.set hi hin) hw' hF

def floatB (ops : Array Oper) (n : Nat) (on : Oper) : Bool :=
  Region.noSelect ops && decide (n + 1 < ops.size) && Region.sinkB .any ops (n + 1) && Region.chainB .any ops (n + 1) && farB ops n on && on.guard.isNone && Region.lexHead .any ops (ops.size - n) n 0 (Array.replicate ops.size false)

theorem wp_region_float {id : Nat} {Q : Exit → Act → World → Prop} {a : Act} {w : World} {l : List Oper} (n : Nat) {on : Oper} (hm : P.follows .mixedOrders = true) (hon : l.toArray[n]? = some on) (hB : floatB l.toArray n on = true)
    (hrun : ∀ w, ∃ v w1, (∀ ev, (execOp ev on).run P w = .ok (.value v) w1) ∧ Below w.heap.size w w1) {Lq : Act → Prop}
    (h : wpQuietF P l.toArray (Fam { w with drawn := w.drawn + 1 }) Lq (l.take n) a)
    (hL : ∀ a w' v w1 w2, Lq a → Below w.heap.size { w with drawn := w.drawn + 1 } w' → (∀ ev, (execOp ev on).run P w' = .ok (.value v) w1) → Below w1.heap.size w1 w2 → wpList P l.toArray Q (l.drop (n + 1)) (a.put on.dst v) w2) : (Code.region id l.toArray true).wp P Q a w := by
  simp only [floatB, Bool.and_eq_true, decide_eq_true_eq, Option.isNone_iff_eq_none] at hB
  obtain ⟨⟨⟨⟨⟨⟨hsel, hn⟩, hs⟩, hc⟩, hfar⟩, hgd⟩, hlex⟩ := hB
  have hn' : n + 1 < l.length := by simpa using hn
  have htl : (l.take n).length = n := by simp; omega
  have inv0 : HeadInv .any l.toArray n (Array.replicate l.toArray.size false) :=
    ⟨by simp, fun j oj _ hl => (by rw [getD_replicate_false] at hl; cases hl), fun t _ ht => getD_in (by simpa using ht) (getD_replicate_false _ _)⟩
  have hg1 : l.toArray.size - n = (l.length - (n + 1)) + 1 := by simp; omega
  rw [hg1] at hlex
  have H := headF_lex (g := (l.length - (n + 1)) + 1) hsel hs hc hn (l.take n) 0 _ a (fun j hj => by
    have hj' : j < n := by rw [htl] at hj; exact hj
    simp [hj']) (by simpa using htl) inv0 (by rw [htl]; exact hlex) h
  refine wp_region_any hm ?_
  have := any_pre (Q' := Q) (g := l.length - (n + 1)) (w0 := { w with drawn := w.drawn + 1 }) (Lq := Lq) hon hgd (Region.noSelect_spec hsel) hs hc hn hfar (by simp) hrun (by simpa using hL) _ _ _ _ inv0 (Below.refl _ _) H
  rw [htl, show n + (l.length - (n + 1)) + 1 = l.toArray.size by simp; omega] at this
  exact this
theorem alloc_runs {on : Oper} {t : TypeId} {zs : List Value} (ho : on.op = .alloc t) (hz : eZero P t = some zs) (w : World) : ∃ v w1, (∀ ev, (execOp ev on).run P w = .ok (.value v) w1) ∧ Below w.heap.size w w1 := by
  obtain ⟨z, h1, h2⟩ := eZero_spec hz w
  exact ⟨.pointer (some ⟨w.heap.size, 0, none⟩), w.alloc (.cells z.cells t), fun ev => by simp [execOp, ho, Instr.alloc, h1, newVar, newRow], (Below.refl _ w).alloc (Nat.le_refl _) _⟩
end

section
variable {C : Ctx} {P : Program} {nt : Nat} {st : St} {Q : Exit → St → Prop}
theorem run_drawF (n : Nat) {id : Nat} {l : List Oper} {on : Oper} {t : TypeId} {zs : List Value} (hc : CtxIs C P nt) (hm : P.follows .mixedOrders = true) (hon : l[n]? = some on) (hB : floatB l.toArray n on = true) (hop : on.op = .alloc t) (hz : Gives (eZero P t) zs)
    (hl : quietW C l.toArray (l.take n) st fun st' => opsW C l.toArray [on] st' fun st2 => opsW C l.toArray (l.drop (n + 1)) st2 fun st3 => Q .normal st3) : ewp C (.region id l.toArray true) Q st := by
  obtain ⟨rfl, rfl, hok⟩ := hc
  rintro a w ⟨ok, h, r⟩
  have r0 := r.below hok ((Below.refl _ w).drew)
  refine wp_region_float n hm (by simpa using hon) hB (alloc_runs hop hz) (Lq := fun a' => ∃ st', (opsW C l.toArray [on] st' fun st2 => opsW C l.toArray (l.drop (n + 1)) st2 fun st3 => Q .normal st3) ∧ Rep C st' ok h a' { w with drawn := w.drawn + 1 })
    (hl ok h a _ r0 _ fun a' st' hk r' => ⟨st', hk, r'⟩) ?_
  rintro a' w' v w1 w2 ⟨st', hk, r'⟩ hb hrun hb2
  have hgd : on.guard = none := by
    simp only [floatB, Bool.and_eq_true, Option.isNone_iff_eq_none] at hB
    exact hB.1.2
  have h1 := hk a' w' ⟨ok, h, r'.below hok hb⟩ (fun e a2 w2 => e = .normal ∧ ∃ st2, (opsW C l.toArray (l.drop (n + 1)) st2 fun st3 => Q .normal st3) ∧ Reps C st2 a2 w2) (fun a2 w2 st2 h2 r2 => ⟨rfl, st2, h2, r2⟩)
  unfold wpList at h1
  rw [if_pos (by simp [Region.wanted, hgd])] at h1
  rcases h1 with h1 | h1
  · unfold Oper.wp at h1
    rw [hrun] at h1
    obtain ⟨_, st2, h2, ok2, hh2, r2⟩ := h1
    exact h2 _ _ ⟨ok2, hh2, r2.below hok hb2⟩ _ fun a'' w'' st'' hk r'' => ⟨st'', hk, r''⟩
  · obtain ⟨_, _, _, e, _⟩ := h1
    cases e
end
end Go.Lw
/-
  A REGION THAT DRAWS ITS ORDER, whose operations only read, but for calls that come up one behind the other (whatever these hand back): ONE WALK, in which all that is ready is taken ahead of the next call.
-/
set_option linter.unusedSimpArgs false
set_option linter.unusedVariables false
namespace Go.Lw
open Go Go.RowKit

section
variable {P : Program} {ops : Array Oper} {Q : Act → World → Prop} {a : Act} {w : World}
/-- An operation is carried out: its value, the world behind it, all that was there being as it was. -/
def stG (P : Program) (ops : Array Oper) (o : Oper) (a : Act) (w : World) (K : Value → World → Prop) : Prop :=
  (Region.wanted o (yielded ops a.tmps) = true ∧ ((∃ v, (execOp a.eval o).run P w = .ok (.value v) w ∧ K v w) ∨
    ∃ f args, (execOp a.eval o).run P w = .ok (.enter f args) w ∧ Calls P f args w fun e w' => ∃ v, e = .returned v ∧ Below w.heap.size w w' ∧ K v w')) ∨
  (Region.wanted o (yielded ops a.tmps) = false ∧ K undef w)
theorem stG_mono {o : Oper} {K K' : Value → World → Prop} (h : ∀ v w', Below w.heap.size w w' → K v w' → K' v w') (hs : stG P ops o a w K) : stG P ops o a w K' := by
  rcases hs with ⟨hw, ⟨v, h1, h2⟩ | ⟨f, args, h1, h2⟩⟩ | ⟨hw, h1⟩
  · exact .inl ⟨hw, .inl ⟨v, h1, h _ _ (Below.refl _ _) h2⟩⟩
  · exact .inl ⟨hw, .inr ⟨f, args, h1, h2.mono fun e w' ⟨v, he, hb, hk⟩ => ⟨v, he, hb, h _ _ hb hk⟩⟩⟩
  · exact .inr ⟨hw, h _ _ (Below.refl _ _) h1⟩
theorem wpOp_of_stG {i : Nat} {o : Oper} {K : Act → World → Prop} {Q' : Exit → Act → World → Prop} (hi : ops[i]? = some o) (hs : stG P ops o a w fun v w' => K (a.put o.dst v) w') : wpOp P ops Q' i K a w := by
  unfold wpOp
  rw [hi]
  simp only
  rcases hs with ⟨hw, ⟨v, h1, h2⟩ | ⟨f, args, h1, h2⟩⟩ | ⟨hw, h1⟩
  · rw [if_pos hw]
    left
    unfold Oper.wp
    rw [h1]
    exact h2
  · rw [if_pos hw]
    left
    unfold Oper.wp
    rw [h1, Oper.upon_enter]
    refine h2.mono fun e w' ⟨v, he, _, hk⟩ => ?_
    subst he
    exact hk
  · rw [if_neg (by simp [hw])]
    exact h1
/-- Whatever order is picked from here on. -/
def phAny (P : Program) (ops : Array Oper) (Q : Act → World → Prop) : Nat → Array Bool → Act → World → Prop
  | 0, listed, a, w => Region.ready .any ops listed = [] ∧ Q a w
  | f + 1, listed, a, w => (Region.ready .any ops listed = [] → Q a w) ∧ ∀ i ∈ Region.ready .any ops listed, ∃ o, ops[i]? = some o ∧ stG P ops o a w fun v w' => phAny P ops Q f (listed.setIfInBounds i true) (a.put o.dst v) w'
theorem wpAny_of_ph {Q' : Exit → Act → World → Prop} (hQ : ∀ a w, Q a w → Q' .normal a w) : ∀ (f : Nat) (listed : Array Bool) (a : Act) (w : World), phAny P ops Q f listed a w → wpAny P .any ops Q' f listed a w
  | 0, _, _, _, h => ⟨h.1, hQ _ _ h.2⟩
  | f + 1, _, _, _, h => ⟨fun h0 => hQ _ _ (h.1 h0), fun i hi => by
    obtain ⟨o, ho, hs⟩ := h.2 i hi
    exact wpOp_of_stG ho (stG_mono (fun v w' _ hk => wpAny_of_ph hQ f _ _ _ hk) hs)⟩
theorem phAny_done {listed : Array Bool} (hr : Region.ready .any ops listed = []) (hq : Q a w) : ∀ f, phAny P ops Q f listed a w
  | 0 => ⟨hr, hq⟩
  | f + 1 => ⟨fun _ => hq, fun i hi => by rw [hr] at hi; cases hi⟩
/-- One value, in whatever world comes behind this one. -/
def StillG (P : Program) (ops : Array Oper) (o : Oper) (v : Value) (a : Act) (w : World) : Prop :=
  (Region.wanted o (yielded ops a.tmps) = true ∧ ∀ w', Below w.heap.size w w' → (execOp a.eval o).run P w' = .ok (.value v) w') ∨
  (Region.wanted o (yielded ops a.tmps) = false ∧ v = undef)
theorem StillG.later {o : Oper} {v : Value} {w1 : World} (h : StillG P ops o v a w) (hb : Below w.heap.size w w1) : StillG P ops o v a w1 := by
  rcases h with ⟨h1, h2⟩ | h
  · exact .inl ⟨h1, fun w' hw' => h2 w' (hb.trans (hw'.mono hb.size))⟩
  · exact .inr h
theorem StillG.of_same {o : Oper} {v : Value} {a' : Act} (h : StillG P ops o v a w) (he : execOp a'.eval o = execOp a.eval o) (hw : Region.wanted o (yielded ops a'.tmps) = Region.wanted o (yielded ops a.tmps)) : StillG P ops o v a' w := by
  unfold StillG at *
  rw [he, hw]
  exact h
theorem stG_of_still {o : Oper} {v : Value} {K : Value → World → Prop} (h : StillG P ops o v a w) (hk : K v w) : stG P ops o a w K := by
  rcases h with ⟨h1, h2⟩ | ⟨h1, rfl⟩
  · exact .inl ⟨h1, .inl ⟨v, h2 w (Below.refl _ _), hk⟩⟩
  · exact .inr ⟨h1, hk⟩
theorem phAny_first {i : Nat} {oi : Oper} {v : Value} (hi : ops[i]? = some oi) (hsel : ∀ (j : Nat) (o : Oper) cs b, ops[j]? = some o → o.op ≠ .select cs b) :
    ∀ (f : Nat) (listed : Array Bool) (a : Act) (w : World),
      (∀ j oj, ops[j]? = some oj → j ≠ i → listed.getD j true = false → (∀ e ∈ oj.after, Region.binds .any e = true → e.on ≠ i) → oi.apart ops oj = true) →
      i ∈ Region.ready .any ops listed → StillG P ops oi v a w →
      phAny P ops Q f (listed.setIfInBounds i true) (a.put oi.dst v) w → phAny P ops Q (f + 1) listed a w := by
  intro f
  induction f with
  | zero =>
    intro listed a w _ hr hy H
    refine ⟨fun h => (by rw [h] at hr; cases hr), fun j hj => ?_⟩
    by_cases hji : j = i
    · subst hji; exact ⟨oi, hi, stG_of_still hy H⟩
    · have := ready_mono hj hji
      rw [H.1] at this
      cases this
  | succ f ih =>
    intro listed a w hfree hr hy H
    refine ⟨fun h => (by rw [h] at hr; cases hr), fun j hj => ?_⟩
    by_cases hji : j = i
    · subst hji; exact ⟨oi, hi, stG_of_still hy H⟩
    · obtain ⟨oj', hoj', hs⟩ := H.2 j (ready_mono hj hji)
      obtain ⟨hjun, oj, hoj, hall⟩ := mem_ready.1 hj
      obtain rfl : oj' = oj := Option.some.inj (hoj'.symm.trans hoj)
      have hnot : ∀ e ∈ oj'.after, Region.binds .any e = true → e.on ≠ i := fun e he hb heq => by
        have h1 := hall e he hb
        rw [heq, getD_both (mem_ready.1 hr).1] at h1
        cases h1
      obtain ⟨h1, h2, h3⟩ := Oper.apart_spec (hfree j oj' hoj hji hjun hnot)
      have hfree' : ∀ k ok, ops[k]? = some ok → k ≠ i → (listed.setIfInBounds j true).getD k true = false →
          (∀ e ∈ ok.after, Region.binds .any e = true → e.on ≠ i) → oi.apart ops ok = true := fun k ok hk hki hun hno => by
        refine hfree k ok hk hki ?_ hno
        by_cases hjk : j = k
        · subst hjk; exact hjun
        · rw [getD_set_ne true hjk] at hun; exact hun
      have hs2 : stG P ops oj' a w fun u w' => phAny P ops Q f ((listed.setIfInBounds i true).setIfInBounds j true) ((a.put oi.dst v).put oj'.dst u) w' := by
        unfold stG at hs ⊢
        rw [execOp_put oj' (fun cs b => hsel j oj' cs b hoj) a oi.dst v h1, wanted_put oj' a oi.dst v h1] at hs
        exact hs
      refine ⟨oj', hoj, stG_mono (fun u w' hb hk => ?_) hs2⟩
      refine ih (listed.setIfInBounds j true) (a.put oj'.dst u) w' hfree' (ready_mono hr (Ne.symm hji)) ((hy.later hb).of_same (execOp_put oi (fun cs b => hsel i oi cs b hi) a oj'.dst u h3) (wanted_put oi a oj'.dst u h3)) ?_
      rw [Array.setIfInBounds_comm _ _ hji, ← Act.put_comm a v u h2]
      exact hk
end

section
variable {C : Ctx} {P : Program} {nt : Nat} {st st' : St} {o : Oper} {x : V} {p : Prop} {K : St → Prop} {Q : Exit → St → Prop} {ops : Array Oper} {listed : Array Bool} {fuel i : Nat}
def phW (C : Ctx) (ops : Array Oper) (fuel : Nat) (listed : Array Bool) (st : St) (K : St → Prop) : Prop :=
  ∀ a w, Reps C st a w → ∀ Q : Act → World → Prop, (∀ a' w' st', K st' → Reps C st' a' w' → Q a' w') → phAny C.P ops Q fuel listed a w
theorem phW_done (hr : Region.ready .any ops listed = []) (hk : K st) : phW C ops fuel listed st K := fun a w r Q hQ => phAny_done hr (hQ a w st hk r) fuel
theorem phW_ro {g : Bool} (hi : ops[i]? = some o) (hB : (Region.noSelect ops && Region.free .any ops listed i && (Region.ready .any ops listed).contains i) = true) (hw : gE ops o st = some g)
    (he : ro C.P (fun g => ev g st) g st.objs o.op = some (x, p)) (hp : g = true → p) (hd : dstB C.nt o.dst = true) (hk : phW C ops fuel (listed.setIfInBounds i true) (st.put o.dst (whenE o g x)) K) : phW C ops (fuel + 1) listed st K := by
  intro a w ⟨ok, h, r⟩ Q hQ
  simp only [Bool.and_eq_true] at hB
  by_cases hg : g = true
  · obtain ⟨v, h1, h2⟩ := ro_sound r (fun g hg x y => ev_sound hg r) (hg ▸ he) (hp hg)
    exact phAny_first hi (Region.noSelect_spec hB.1.1) fuel listed a w (Region.free_spec hi hB.1.2) (by simpa using hB.2) (.inl ⟨by rw [wanted_of r hw, hg], fun w' hb => h2 w' fun b hb' => hb.block b hb'⟩) (hk _ w ⟨ok, h, r.put (dstB_spec hd) (whenE_yes hg h1)⟩ Q hQ)
  · have hg' : g = false := by simpa using hg
    exact phAny_first hi (Region.noSelect_spec hB.1.1) fuel listed a w (Region.free_spec hi hB.1.2) (by simpa using hB.2) (.inr ⟨by rw [wanted_of r hw, hg'], rfl⟩) (hk _ w ⟨ok, h, r.put (dstB_spec hd) (whenE_one hw hg')⟩ Q hQ)
theorem phW_call {y : Operand} {f : FuncId} {args : Array Operand} {ts : Array TypeId} {z : V} {xs caps : List V} {ds : List D} {g : Bool} {res : D} (hc : CtxOk C) (hi : ops[i]? = some o) (hr : Region.ready .any ops listed = [i])
    (hw : gE ops o st = some g) (ho : o.op = .call { callee := .value y, args := args, argTypes := ts }) (hy : ev g st y = some z) (hx : calleeE (some z) = some (f, caps)) (hl : evL g st args.toList = some xs) (ha : asDL st (xs ++ caps) = some (ds, false))
    (hf : g = true → FnOk C.P f ds res) (hd : dstB C.nt o.dst = true) (hk : phW C ops fuel (listed.setIfInBounds i true) (st.put o.dst (whenE o g (.d res))) K) : phW C ops (fuel + 1) listed st K := by
  intro a w ⟨ok, h, r⟩ Q hQ
  refine ⟨fun e => (by rw [hr] at e; cases e), fun j hj => ?_⟩
  rw [hr] at hj
  obtain rfl := List.mem_singleton.1 hj
  refine ⟨o, hi, ?_⟩
  by_cases hg : g = true
  rotate_left
  · have hg' : g = false := by simpa using hg
    exact .inr ⟨by rw [wanted_of r hw, hg'], hk _ _ ⟨ok, h, r.put (dstB_spec hd) (whenE_one hw hg')⟩ Q hQ⟩
  replace hf := hf hg
  obtain ⟨cs, h1, h2, h3⟩ := callArgs_sound hg r hx (ev_sound hg r hy) hl
  rw [Array.toArray_toList] at h2 h3
  refine .inl ⟨by rw [wanted_of r hw, hg], .inr ⟨f, _, run_call hf.1 ho h1 w, ?_⟩⟩
  refine (hf.2 ok w _ (fun k hk => (r.mem.okb k hk).1) (r.mem.std hc) (args_rd r ha h2 h3)).mono fun e w' ⟨v, he, hbl, hr⟩ => ⟨v, he, hbl, ?_⟩
  refine hk _ _ ⟨fresh ok w w', h, ?_⟩ Q hQ
  have hmem := r.mem.below (ok' := fresh ok w w') hbl (fun b hb => .inl hb) (fun b hb => hb) hc.lt
  have r' : Rep C st (fresh ok w w') h a w' := ⟨hmem, r.defers, r.nt, r.pin, fun i y hy => by
    obtain ⟨h5, u, h6, h7⟩ := r.slot i y hy
    exact ⟨h5, u, h6, h7.mono (fun b hb => hbl.block b (r.mem.okb b hb).1) fun b hb => .inl hb⟩⟩
  exact r'.put (dstB_spec hd) (whenE_yes hg (.d _ _ hr))
theorem Pr {g : Bool} (i : Nat) (hc : CtxIs C P nt) (hi : ops[i]? = some o := by rfl) (hB : (Region.noSelect ops && Region.free .any ops listed i && (Region.ready .any ops listed).contains i) = true := by kernel_rfl) (hw : Gives (gE ops o st) g := by simp; exact Gives.mk)
    (he : Gives (ro P (fun g => ev g st) g st.objs o.op) (x, p) := by simp; exact Gives.mk) (hp : p := by first | exact True.intro | omega | assumption | (simp; done) | (simp; omega) | (simp at *; omega)) (hd : dstB nt o.dst = true := by simp) {st2 : St} (h2 : Gives (some (st.put o.dst (whenE o g x))) st2 := by simp; exact Gives.mk) (hk : phW C ops fuel (listed.setIfInBounds i true) st2 K) : phW C ops (fuel + 1) listed st K := by
  obtain ⟨rfl, rfl, hok⟩ := hc
  cases h2
  exact phW_ro hi hB hw he (fun _ => hp) hd hk
theorem Pc (i : Nat) (hc : CtxIs C P nt) {y : Operand} {f : FuncId} {args : Array Operand} {ts : Array TypeId} {d : Option Tmp} {ty : TypeId} {pos : String} {af : Array Edge} {gd : Option (Nat × Bool)} {z : V} {xs caps : List V} {ds : List D} {g : Bool} {res : D}
    (hi : ops[i]? = some { dst := d, op := .call { callee := .value y, args := args, argTypes := ts }, type := ty, pos := pos, after := af, guard := gd } := by rfl) (hr : Region.ready .any ops listed = [i] := by kernel_rfl)
    (hw : Gives (gE ops { dst := d, op := .call { callee := .value y, args := args, argTypes := ts }, type := ty, pos := pos, after := af, guard := gd } st) g := by simp; exact Gives.mk)
    (hy : Gives (ev g st y) z := by simp; exact Gives.mk) (hx : Gives (calleeE (some z)) (f, caps) := by simp; exact Gives.mk) (hl : Gives (evL g st args.toList) xs := by simp; exact Gives.mk) (ha : Gives (asDL st (xs ++ caps)) (ds, false) := by simp; exact Gives.mk) (hf : FnOk P f ds res) (hd : dstB nt d = true := by simp) {st2 : St} (h2 : Gives (some (st.put d (if gd.isNone then .d res else .when g (.d res)))) st2 := by simp; exact Gives.mk)
    (hk : phW C ops fuel (listed.setIfInBounds i true) st2 K) : phW C ops (fuel + 1) listed st K := by
  obtain ⟨rfl, rfl, hok⟩ := hc
  cases h2
  exact phW_call hok hi hr hw rfl hy hx hl ha (fun _ => hf) hd hk
theorem Pz (hr : Region.ready .any ops listed = [] := by kernel_rfl) (hk : K st) : phW C ops fuel listed st K := phW_done hr hk
theorem Pd (n : Nat) {st1 : St} {id : Nat} {l : List Oper} (hc : CtxIs C P nt) (hm : P.follows .mixedOrders = true := by kernel_rfl) (hn : l.length = n := by rfl) (hl : phW C l.toArray n (Array.replicate n false) st fun st' => Le C st1 st') (hk : Q .normal st1) : ewp C (.region id l.toArray true) Q st := by
  obtain ⟨rfl, rfl, hok⟩ := hc
  subst hn
  rintro a w ⟨ok, h, r⟩
  refine wp_mono (Q := fun e a' w' => e = .normal ∧ Reps C st1 a' w') (wp_region_any hm (wpAny_of_ph (Q := fun a' w' => Reps C st1 a' w') (fun _ _ hq => ⟨rfl, hq⟩) _ _ _ _ (hl a _ ⟨ok, h, ?_⟩ _ fun a' w' st' hle r' => hle a' w' r'))) ?_
  · exact r.below hok ((Below.refl _ w).drew)
  · rintro e a' w' ⟨rfl, r'⟩
    exact ⟨st1, hk, r'⟩
end
end Go.Lw
