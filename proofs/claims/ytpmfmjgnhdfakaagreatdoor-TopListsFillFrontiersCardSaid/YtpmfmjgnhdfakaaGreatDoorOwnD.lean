/-
  A call with objects lent as one of the steps of a region in all orders.
-/
import Derived.Test.YtpmfmjgnhdfakaaGreatDoorLwPh
import Derived.Test.YtpmfmjgnhdfakaaGreatDoorLwRun
set_option linter.unusedSimpArgs false
set_option linter.unusedVariables false
namespace Go.Proofs.YtpmfmjgnhdfakaaGreatDoor
open Go.Lw Go.RowKit
set_option maxRecDepth 100000
set_option maxHeartbeats 2000000

theorem wp_norm {P : Program} {o : Oper} {a : Act} {w : World} {K : Act → World → Prop} {Q : Exit → Act → World → Prop} (hh : o.wp P a w K (fun e a w => e = .normal ∧ K a w)) : o.wp P a w K Q := by
  unfold Oper.wp at *
  generalize (execOp a.eval o).run P w = r at *
  cases r with
  | ok n w' =>
    cases n <;> simp only [Oper.upon] at hh ⊢ <;>
      first
        | exact hh
        | exact Calls.mono hh (fun e w'' he => by
            cases e with
            | returned v => exact he
            | panicked c => exact absurd he.1 (fun h => by cases h)
            | outgrown =>
              obtain ⟨_, _, h, _⟩ := he
              cases h)
        | exact absurd hh.1 (fun h => by cases h)
        | (obtain ⟨_, _, h, _⟩ := hh; cases h)
  | halt x w' =>
    cases x <;> simp only [Oper.upon] at hh ⊢ <;>
      first
        | exact hh
        | exact absurd hh.1 (fun h => by cases h)
        | (obtain ⟨_, _, h, _⟩ := hh; cases h)
theorem stepW_of_opsW {C : Ctx} {ops : Array Oper} {i : Nat} {o : Oper} {st : St} {K : St → Prop} (hi : ops[i]? = some o) (h : opsW C ops [o] st K) : stepW C ops i st K := by
  intro a w r Q K' hQ
  have h2 := h a w r (fun e a w => e = .normal ∧ K' a w) (fun a' w' st' hk r' => ⟨rfl, hQ a' w' st' hk r'⟩)
  unfold wpOp
  rw [hi]
  unfold wpList at h2
  simp only
  split
  · rename_i hw
    rw [if_pos hw] at h2
    rcases h2 with h3 | ⟨_, _, _, h4, _⟩
    · left
      refine wp_norm ?_
      refine Oper.wp_mono (fun a w h => ?_) h3
      exact h.2
    · cases h4
  · rename_i hw
    rw [if_neg hw] at h2
    exact h2.2
section
variable {C : Ctx} {P : Program} {nt : Nat} {st : St} {K : St → Prop} {ops : Array Oper} {i : Nat}
theorem run_stepM (σ : List (Nat × Nat)) {f : FuncId} {cargs : List V} {cobjs cobjs' : List (Nat × O)} {rs : V} (hf : FnMem P f cargs cobjs rs cobjs') (hc : CtxIs C P nt) {x : Operand} {args : Array Operand} {ts : Array TypeId} {d : Option Tmp} {ty : TypeId} {pos : String} {af : Array Edge} {gd : Option (Nat × Bool)} {y : V} {xs caps xc : List V} {ps ps2 : List (Nat × O)} {s2 : St} {r2 : V}
    (hi : ops[i]? = some { dst := d, op := .call { callee := .value x, args := args, argTypes := ts }, type := ty, pos := pos, after := af, guard := gd })
    (hw : Gives (gE ops { dst := d, op := .call { callee := .value x, args := args, argTypes := ts }, type := ty, pos := pos, after := af, guard := gd } st) true)
    (hy : Gives (ev true st x) y) (hx : Gives (calleeE (some y)) (f, caps)) (hl : Gives (evL true st args.toList) xs) (hxc : Gives (some (xs ++ caps)) xc) (hxs : renL σ cargs = xc) (hps : Gives (some (newObjs σ cobjs)) ps) (hpk : Gives (pickL st.objs (ps.map (·.1))) ps2) (hu : ps = ps2) (hσ : sigB σ cobjs cobjs' rs = true) (hd : dstB nt d = true)
    (h2 : Gives (some (afterM σ cobjs' st)) s2) (h3 : Gives (some (renV σ rs)) r2) (hk : K (s2.put d r2)) : stepW C ops i st K :=
  stepW_of_opsW hi (run_callM σ hf hc hw hy hx hl hxc hxs hps hpk hu hσ hd h2 h3 (opsW_nil hk))
end
theorem anyW_le {C : Ctx} {ops : Array Oper} {fuel : Nat} {listed : Array Bool} {st st' : St} {K : St → Prop} (hl : Le C st' st) (hx : anyW C ops fuel listed st' K) : anyW C ops fuel listed st K := fun a w r => hx a w (hl a w r)
/-! The rules in short: what is reckoned is left out. -/
section
variable {C : Ctx} {P : Program} {nt : Nat} {st st' : St} {x : V} {p : Prop} {K : St → Prop} {Q : Exit → St → Prop} {ops : Array Oper} {listed : Array Bool} {fuel i : Nat} {o : Oper}
theorem Xp (i : Nat) (hc : CtxIs C P nt) (hi : ops[i]? = some o := by rfl) (hB : (Region.noSelect ops && Region.free .any ops listed i && (Region.ready .any ops listed).contains i) = true := by kernel_rfl) (hg : o.guard = none := by rfl)
    (he : Gives (ro P (fun g => ev g (flatS st)) true [] o.op) (x, p) := by simp; exact Gives.mk) (hp : p := by first | exact True.intro | omega | (simp; done) | (simp; omega) | (simp at *; omega)) (hx : flatV x = true := by simp) (hd : dstB nt o.dst = true := by simp) {st2 : St} (h2 : Gives (some (st.put o.dst x)) st2 := by simp; exact Gives.mk) (hk : anyW C ops fuel (listed.setIfInBounds i true) st2 K) : anyW C ops (fuel + 1) listed st K := run_anyP i hc hi hB hg he hp hx hd h2 hk
theorem Xm (i : Nat) {y : Operand} (hc : CtxIs C P nt) (hi : ops[i]? = some o := by rfl) (hB : (Region.noSelect ops && Region.free .any ops listed i && (Region.ready .any ops listed).contains i) = true := by kernel_rfl) (hg : o.guard = none := by rfl)
    (ho : o.op = .move y ∨ o.op = .assign y := by first | exact .inl rfl | exact .inr rfl) (he : Gives (ev true st y) x := by simp; exact Gives.mk) (hd : dstB nt o.dst = true := by simp) {st2 : St} (h2 : Gives (some (st.put o.dst x)) st2 := by simp; exact Gives.mk) (hk : anyW C ops fuel (listed.setIfInBounds i true) st2 K) : anyW C ops (fuel + 1) listed st K := run_anyM i hc hi hB hg ho he hd h2 hk
theorem Xw (hc : CtxIs C P nt) (hi : ops[i]? = some o := by rfl) (he : Lw.Ends (step1 P nt ops false o (.go st True)) st' p [] := by simp; exact Ends.go) (hp : p := by first | exact True.intro | omega | (simp; done) | (simp; omega) | (simp at *; omega)) (hk : K st') : stepW C ops i st K := run_stepW hc hi he hp hk
theorem Xa (rs : List Nat) (hr : Region.ready .any ops listed = rs := by kernel_rfl) (hne : rs.isEmpty = false := by rfl) (hx : eachW C ops fuel listed st K rs) : anyW C ops (fuel + 1) listed st K := anyW_all rs hr hne hx
theorem Xz (hr : Region.ready .any ops listed = [] := by kernel_rfl) (hk : K st) : anyW C ops fuel listed st K := anyW_done hr hk
theorem Xq {s2 : St} (hq : anyW C ops fuel listed s2 K) (h1 : pickL st.slots (s2.slots.map (·.1)) = some s2.slots := by simp) (h2 : pickL st.objs (s2.objs.map (·.1)) = some s2.objs := by simp) : anyW C ops fuel listed st K :=
  anyW_le (Le.keep _ _ h1 h2) hq
theorem Xc (hc : CtxIs C P nt) {x : Operand} {f : FuncId} {args : Array Operand} {ts : Array TypeId} {y : V} {xs caps : List V} {ds : List D} {b g : Bool} {res : D} (hi : ops[i]? = some o := by rfl) (ho : o.op = .call { callee := .value x, args := args, argTypes := ts } := by rfl)
    (hw : Gives (gE ops o st) g := by simp; exact Gives.mk) (hy : Gives (ev g st x) y := by simp; exact Gives.mk) (hx : Gives (calleeE (some y)) (f, caps) := by simp; exact Gives.mk) (hl : Gives (evL g st args.toList) xs := by simp; exact Gives.mk) (ha : Gives (asDL st (xs ++ caps)) (ds, b) := by simp; exact Gives.mk) (hf : FnOk P f ds res) (hb : (!b || flat res) = true := by simp) (hd : dstB nt o.dst = true := by simp)
    (hk : K (st.put o.dst (whenE o g (.d res)))) : stepW C ops i st K := run_stepC hc hi ho hw hy hx hl ha (fun _ => hf) hb hd hk
theorem Xs (σ : List (Nat × Nat)) {f : FuncId} {cargs : List V} {cobjs cobjs' : List (Nat × O)} {rs : V} (hf : FnMem P f cargs cobjs rs cobjs') (hc : CtxIs C P nt) {x : Operand} {args : Array Operand} {ts : Array TypeId} {d : Option Tmp} {ty : TypeId} {pos : String} {af : Array Edge} {gd : Option (Nat × Bool)} {y : V} {xs caps xc : List V} {ps ps2 : List (Nat × O)} {s2 : St} {r2 : V}
    (hi : ops[i]? = some { dst := d, op := .call { callee := .value x, args := args, argTypes := ts }, type := ty, pos := pos, after := af, guard := gd } := by rfl)
    (hw : Gives (gE ops { dst := d, op := .call { callee := .value x, args := args, argTypes := ts }, type := ty, pos := pos, after := af, guard := gd } st) true := by simp; exact Gives.mk)
    (hy : Gives (ev true st x) y := by simp; exact Gives.mk) (hx : Gives (calleeE (some y)) (f, caps) := by simp; exact Gives.mk) (hl : Gives (evL true st args.toList) xs := by simp; exact Gives.mk) (hxc : Gives (some (xs ++ caps)) xc := by simp; exact Gives.mk) (hxs : renL σ cargs = xc := by rfl) (hps : Gives (some (newObjs σ cobjs)) ps := by simp; exact Gives.mk) (hpk : Gives (pickL st.objs (ps.map (·.1))) ps2 := by simp; exact Gives.mk) (hu : ps = ps2 := by rfl) (hσ : sigB σ cobjs cobjs' rs = true := by simp) (hd : dstB nt d = true := by simp)
    (h2 : Gives (some (afterM σ cobjs' st)) s2 := by simp; exact Gives.mk) (h3 : Gives (some (renV σ rs)) r2 := by simp; exact Gives.mk) (hk : K (s2.put d r2)) : stepW C ops i st K := run_stepM σ hf hc hi hw hy hx hl hxc hxs hps hpk hu hσ hd h2 h3 hk
theorem Xk (is ids : List Nat) {sl : List (Nat × V)} {os : List (Nat × O)} (h1 : Gives (pickL st.slots is) sl := by simp; try exact Gives.mk) (h2 : Gives (pickL st.objs ids) os := by simp; try exact Gives.mk) : Le C ⟨sl, os⟩ st := run_keep is ids h1 h2
theorem Xd (n : Nat) {st1 : St} {id : Nat} {l : List Oper} (hc : CtxIs C P nt) (hm : P.follows .mixedOrders = true := by kernel_rfl) (hn : l.length = n := by rfl) (hl : anyW C l.toArray n (Array.replicate n false) st fun st' => Le C st1 st') (hk : Q .normal st1) : ewp C (.region id l.toArray true) Q st := run_drawAny n hc hm hn hl hk
end
end Go.Proofs.YtpmfmjgnhdfakaaGreatDoor
/-
  A function that hands back a row of its own hands back data.
-/
set_option linter.unusedSimpArgs false
set_option linter.unusedVariables false
namespace Go.Lw
open Go.RowKit

theorem fnOk_own {P : Program} {f : FuncId} {args : List D} {id n e sz : Nat} {gr : Bool × List D} {es : List (List D)} (hf : FnMem P f (args.map V.d) [] (.os id n) [(id, .own e sz gr es)]) (hn : n ≤ es.length) : FnOk P f args (.sl n fun i => es.getD i gr.2) := by
  refine ⟨hf.1, fun ok w vs hok hstd hargs => ?_⟩
  obtain ⟨hsz, hva⟩ := hargs
  refine (hf.2 ok (fun _ => ⟨none, 0, 0⟩) w vs hok hstd (fun _ _ _ hl => by cases hl) ⟨(fun _ _ hl => by cases hl), (fun _ _ _ hl => by cases hl), (fun _ _ _ _ _ hl => by cases hl)⟩ ⟨by simpa using hsz, fun i x hi => ?_⟩).mono ?_
  · rw [List.getElem?_map] at hi
    obtain ⟨d, hd, rfl⟩ := Option.map_eq_some_iff.1 hi
    obtain ⟨v, hv, hr⟩ := hva i d hd
    exact ⟨v, hv, .d _ _ hr⟩
  · rintro e' w' ⟨v, ok', h', rfl, L⟩
    refine ⟨v, rfl, ⟨L.os, L.tape, L.output, L.size, fun k hk => L.block k hk fun ⟨_, _, hl, _⟩ => by cases hl⟩, ?_⟩
    have hup : ∀ k, ok' k → fresh ok w w' k := fun k hk => by
      obtain ⟨h1, h2⟩ := L.okb k hk
      rcases h2 with h2 | h2
      · exact .inl h2
      · exact .inr ⟨h2, h1⟩
    have hres := L.res
    have hlk : look id [(id, O.own e sz gr es)] = some (.own e sz gr es) := by simp [look]
    obtain ⟨h1, h2, h3⟩ := L.lies.obj id _ hlk
    generalize hv : v = v0 at hres
    cases hres with
    | os _ _ hcap =>
      rcases h3 with ⟨h4, h5, h6⟩ | ⟨b, cur, fz, g1, g2, g3, g4, g5, g6, g7⟩
      · subst h5
        obtain rfl : n = 0 := by simpa using hn
        exact .sl 0 _ _ _ 0 0 0 (fun _ _ => undef) (by omega) h2 (fun h => by omega) (fun i hi => by omega) (fun i k hi => by omega) (fun i k d hi => by omega)
      · have hb : fresh ok w w' b := by
          rcases L.fresh id _ b hlk g1 with h | ⟨o, h, _⟩
          · exact .inr ⟨h, (L.lies.blk id _ b hlk g1).1⟩
          · cases h
        let g : Nat → Nat → Value := fun i k => cur.getD (i * sz + k) undef
        have hcur : ∀ i k, i < n → k < sz → cur[i * sz + k]? = some (g i k) := fun i k hi hk => by
          have : i * sz + k < cur.size := by
            rw [g6]
            have : (i + 1) * sz ≤ (h' id).cap * sz := Nat.mul_le_mul_right _ (by omega)
            rw [Nat.add_mul] at this
            omega
          simp [g, Array.getElem?_eq_getElem this]
        have hes : ∀ i, i < n → es[i]? = some (es.getD i gr.2) := fun i hi => by simp [List.getD, List.getElem?_eq_getElem (show i < es.length by omega)]
        refine .sl n _ _ _ sz b 0 g hcap h2 (fun _ => ⟨by simp [Hd.addr, g1], hb⟩) (fun i hi => (g7 i _ (hes i hi)).1) (fun i k hi hk => ?_) (fun i k d hi hk => ?_)
        · have := hcur i k hi hk
          simpa [World.cell?, g2] using this
        · obtain ⟨v, h7, h8⟩ := (g7 i _ (hes i hi)).2 k d hk
          have hkl : k < sz := by rw [← (g7 i _ (hes i hi)).1]; exact (List.getElem?_eq_some_iff.1 hk).1
          rw [hcur i k hi hkl] at h7
          cases h7
          exact h8.mono (fun _ _ => rfl) hup
/-- Another row that stands for none. -/
theorem rez_le {C : Ctx} {st : St} {id e sz : Nat} {b : Bool} {z : List D} {es : List (List D)} (z' : List D) (hl : look id st.objs = some (.own e sz (b, z) es)) : Le C ⟨st.slots, place id (.own e sz (b, z') es) st.objs⟩ st := by
  rintro a w ⟨ok, h, r⟩
  have lk : ∀ j o1, look j (place id (.own e sz (b, z') es) st.objs) = some o1 → ∃ o2, look j st.objs = some o2 ∧ (RdO w ok h j o2 → RdO w ok h j o1) := fun j o1 hj => by
    rw [look_place] at hj
    split at hj
    · rename_i e2; subst e2; cases hj; exact ⟨_, hl, fun hx => hx⟩
    · exact ⟨o1, hj, fun hx => hx⟩
  refine ⟨ok, h, ⟨r.mem.os, r.mem.tape, r.mem.output, r.mem.size, r.mem.block, r.mem.okb, fun j o1 hj => ?_, fun j o1 b hj => ?_, fun j j' o1 o2 b hj hj' => ?_⟩, r.defers, r.nt, r.pin, r.slot⟩
  · obtain ⟨o2, h1, h2⟩ := lk j o1 hj
    exact h2 (r.mem.obj j o2 h1)
  · obtain ⟨o2, h1, h2⟩ := lk j o1 hj
    exact r.mem.blk j o2 b h1
  · obtain ⟨o3, h1, _⟩ := lk j o1 hj
    obtain ⟨o4, h2, _⟩ := lk j' o2 hj'
    exact r.mem.apart j j' o3 o4 b h1 h2
theorem le_rez (id : Nat) (z' : List D) {C : Ctx} {st s2 s3 : St} {e sz : Nat} {b : Bool} {z : List D} {es : List (List D)} (hl : Gives (look id st.objs) (.own e sz (b, z) es)) (h2 : Gives (some (St.mk st.slots (place id (.own e sz (b, z') es) st.objs))) s2) (hk : Le C s3 s2) : Le C s3 st := by
  cases h2
  exact hk.trans (rez_le z' hl)
/-- Captured data is data. -/
@[simp] theorem asDL_data (st : St) (caps : List D) : asDL st (caps.map V.d) = some (caps, false) := by
  induction caps with
  | nil => rfl
  | cons x r ih => simp [asDL, asD, asLeaf, ih]
end Go.Lw
