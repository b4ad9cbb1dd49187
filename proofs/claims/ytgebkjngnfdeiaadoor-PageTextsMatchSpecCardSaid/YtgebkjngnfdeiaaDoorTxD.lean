/-
  THE REFERENCE OF CHAPTER 3: addresses in styles; safe texts. (WITH run_drawN.)
-/
import Derived.Test.YtgebkjngnfdeiaaDoorTxC
set_option linter.unusedSimpArgs false
set_option linter.unusedVariables false
namespace Go.Proofs.YtgebkjngnfdeiaaDoor
open Go.Lw
set_option maxRecDepth 100000
set_option maxHeartbeats 1000000

section
variable {C : Ctx} {P : Program} {nt : Nat} {st st' : St} {o : Oper} {x : V} {p : Prop} {K : St → Prop} {ops : Array Oper} {listed : Array Bool} {fuel i : Nat}
/-- An operation that looks at no memory, guarded or not, in whatever order. -/
theorem anyW_guard (hi : ops[i]? = some o) (hB : (Region.noSelect ops && Region.free .any ops listed i && (Region.ready .any ops listed).contains i) = true) {g : Bool} (hw : gE ops o st = some g)
    (he : ro C.P (fun g => ev g (flatS st)) g [] o.op = some (x, p)) (hp : g = true → p) (hx : flatV x = true) (hd : dstB C.nt o.dst = true) (hk : anyW C ops fuel (listed.setIfInBounds i true) (st.put o.dst (whenE o g x)) K) : anyW C ops (fuel + 1) listed st K := by
  intro a w ⟨ok, h, r⟩ Q hQ hn
  simp only [Bool.and_eq_true] at hB
  have hwt := wanted_of r hw
  by_cases hg : g = true
  · obtain ⟨v, h1, h2⟩ := pure_sound r (hg ▸ he) (hp hg) hx
    exact wpAny_take (v := v) hi hB.1.1 hB.1.2 hB.2 (fun c a w hq => absurd hq (hn _ _ _)) (.inl ⟨by rw [hwt, hg], h2⟩) (hk _ w ⟨ok, h, r.put (dstB_spec hd) (whenE_yes hg h1)⟩ Q hQ hn)
  · have hg' : g = false := by simpa using hg
    exact wpAny_take (v := undef) hi hB.1.1 hB.1.2 hB.2 (fun c a w hq => absurd hq (hn _ _ _)) (.inr ⟨by rw [hwt, hg'], rfl⟩) (hk _ w ⟨ok, h, r.put (dstB_spec hd) (whenE_one hw hg')⟩ Q hQ hn)
theorem run_anyG (i : Nat) (hc : CtxIs C P nt) (hi : ops[i]? = some o) (hB : (Region.noSelect ops && Region.free .any ops listed i && (Region.ready .any ops listed).contains i) = true) {g : Bool} (hw : Gives (gE ops o st) g)
    (he : Gives (ro P (fun g => ev g (flatS st)) g [] o.op) (x, p)) (hp : g = true → p) (hx : flatV x = true) (hd : dstB nt o.dst = true) {st2 : St} (h2 : Gives (some (st.put o.dst (whenE o g x))) st2) (hk : anyW C ops fuel (listed.setIfInBounds i true) st2 K) : anyW C ops (fuel + 1) listed st K := by
  obtain ⟨rfl, rfl, hok⟩ := hc
  cases h2
  exact anyW_guard hi hB hw he hp hx hd hk
/-- A call, in whatever order. -/
theorem stepW_call {x : Operand} {f : FuncId} {args : Array Operand} {ts : Array TypeId} {y : V} {xs caps : List V} {ds : List D} {b g : Bool} {res : D} (hc : CtxOk C) (hi : ops[i]? = some o)
    (hw : gE ops o st = some g) (ho : o.op = .call { callee := .value x, args := args, argTypes := ts }) (hy : ev g st x = some y) (hx : calleeE (some y) = some (f, caps)) (hl : evL g st args.toList = some xs) (ha : asDL st (xs ++ caps) = some (ds, b))
    (hf : g = true → FnOk C.P f ds res) (hb : b = false ∨ flat res = true) (hd : dstB C.nt o.dst = true) (hk : K (st.put o.dst (whenE o g (.d res)))) : stepW C ops i st K := by
  intro a w ⟨ok, h, r⟩ Q K' hQ
  unfold wpOp
  rw [hi]
  simp only
  rw [wanted_of r hw]
  by_cases hg : g = true
  rotate_left
  · rw [if_neg hg]
    exact hQ _ _ _ hk ⟨ok, h, r.put (dstB_spec hd) (whenE_one hw (by simpa using hg))⟩
  rw [if_pos hg]
  left
  replace hf := hf hg
  unfold Oper.wp
  obtain ⟨cs, h1, h2, h3⟩ := callArgs_sound hg r hx (ev_sound hg r hy) hl
  rw [Array.toArray_toList] at h2 h3
  rw [run_call hf.1 ho h1, Oper.upon_enter]
  refine (hf.2 (if b then withOwn ok h st else ok) w _ (fun k hk => ?_) (r.mem.std hc) (args_rd r ha h2 h3)).mono fun e w' ⟨v, he, hbl, hr⟩ => ?_
  · split at hk
    · rcases hk with hk | ⟨id, o1, h3, h4⟩
      · exact (r.mem.okb k hk).1
      · exact (r.mem.blk id o1 k h3 h4).1
    · exact (r.mem.okb k hk).1
  · subst he
    refine hQ _ _ _ hk ⟨fresh ok w w', h, ?_⟩
    have hr' : RdD w' (fresh ok w w') res v := by
      rcases hb with hb | hb
      · subst hb; exact hr
      · exact hr.flat (flat_of hb)
    have hmem := r.mem.below (ok' := fresh ok w w') hbl (fun b hb => .inl hb) (fun b hb => hb) hc.lt
    have r' : Rep C st (fresh ok w w') h a w' := ⟨hmem, r.defers, r.nt, r.pin, fun i y hy => by
      obtain ⟨h5, u, h6, h7⟩ := r.slot i y hy
      exact ⟨h5, u, h6, h7.mono (fun b hb => hbl.block b (r.mem.okb b hb).1) fun b hb => .inl hb⟩⟩
    exact r'.put (dstB_spec hd) (whenE_yes hg (.d _ _ hr'))
theorem run_stepC (hc : CtxIs C P nt) {x : Operand} {f : FuncId} {args : Array Operand} {ts : Array TypeId} {y : V} {xs caps : List V} {ds : List D} {b g : Bool} {res : D} (hi : ops[i]? = some o) (ho : o.op = .call { callee := .value x, args := args, argTypes := ts })
    (hw : Gives (gE ops o st) g) (hy : Gives (ev g st x) y) (hx : Gives (calleeE (some y)) (f, caps)) (hl : Gives (evL g st args.toList) xs) (ha : Gives (asDL st (xs ++ caps)) (ds, b)) (hf : g = true → FnOk P f ds res) (hb : (!b || flat res) = true) (hd : dstB nt o.dst = true)
    (hk : K (st.put o.dst (whenE o g (.d res)))) : stepW C ops i st K := by
  obtain ⟨rfl, rfl, hok⟩ := hc
  exact stepW_call hok hi hw ho hy hx hl ha hf (by cases b <;> simp_all) hd hk
end
theorem wordAt_ok (l w : Bs) (i : Nat) (hi : i ≤ l.length) (hm : l.length ≤ 200000) (hw : w.length ≤ 200000) : FnOk Tryd.prog 45 [str l, int i, str w] (tru (wrd l i w)) := by
  refine fnOk Tryd.func45 rfl (by kernel_rfl) Tryd.ntmps45 _ rfl (by simp) fun C hc => ?_
  have eT : ((i : Int) + (w.length : Int)).toNat = i + w.length := by omega
  repeat' (first | (first | refine ewp_seq ?_ | refine run_region hc (by simp; exact Ends.go) (by first | exact True.intro | omega | (simp; done) | (simp; omega) | (simp at *; omega)) ?_ | refine run_draw hc (by kernel_rfl) (by kernel_rfl) (by simp; exact Ends.go) (by first | exact True.intro | omega | (simp; done) | (simp; omega) | (simp at *; omega)) ?_ | refine ewp_scope ?_ | refine scopeQ_normal ?_ | refine scopeQ_ret ?_ | refine scopeQ_exit ?_ | refine ewp_skip ?_ | refine ewp_block ?_ | refine ewp_exit ?_ | refine ewp_label ?_ | refine thenQ_normal ?_ | refine thenQ_ret ?_ | refine thenQ_exit ?_ | refine blockQ_normal ?_ | refine blockQ_ret ?_ | refine blockQ_here ?_ | refine blockQ_there (by decide) ?_ | refine ewp_ret ?_ | refine opsW_nil ?_ | refine quietW_nil ?_ | (refine run_cond (by simp; exact Gives.mk) (fun hb => ?_) (fun hb => ?_) <;> (try simp at hb)) | fail) | (first | refine run_callW hc (by simp; exact Gives.mk) (by simp; exact Gives.mk) (by simp; exact Gives.mk) (by simp; exact Gives.mk) (by simp; exact Gives.mk) (fun _ => by first | exact rSmall_ok _ (by simp; omega)) (by simp) (by simp) ?_ | refine run_callQ hc (by simp; exact Gives.mk) (by simp; exact Gives.mk) (by simp; exact Gives.mk) (by simp; exact Gives.mk) (by simp; exact Gives.mk) (fun _ => by first | exact rSmall_ok _ (by simp; omega)) (by simp) (by simp) ?_ | refine run_ops hc (by simp; first | exact Ends.go | exact Ends.halt) (by decide) (by first | exact True.intro | omega | (simp; done) | (simp; omega) | (simp at *; omega)) ?_ | refine run_quiet hc (by simp; first | exact Ends.go | exact Ends.halt) (by decide) (by first | exact True.intro | omega | (simp; done) | (simp; omega) | (simp at *; omega)) ?_ | refine run_regionW hc (by simp; exact Ends.halt) (by first | exact True.intro | omega | (simp; done) | (simp; omega) | (simp at *; omega)) ?_ | refine run_drawN hc (by kernel_rfl) (by decide) (by kernel_rfl) (by simp; exact Ends.halt) (by first | exact True.intro | omega | (simp; done) | (simp; omega) | (simp at *; omega)) ?_ | fail))
  (refine run_leave hc (by simp; exact Gives.mk) ?_)
  refine res_bool ?_
  by_cases h : i + w.length ≤ l.length
  · have h' : (i : Int) + (w.length : Int) ≤ (l.length : Int) := by omega
    rw [Bool.eq_iff_iff]; simp [wrd, h, h', eT]
  · have h' : ¬ (i : Int) + (w.length : Int) ≤ (l.length : Int) := by omega
    rw [Bool.eq_iff_iff]; simp [wrd, h, h']
theorem qB_eq (c : UInt8) : qB c = decide (Lib.indexByte [34, 39, 10, 41] c < 0) := by
  have := index_neg [34, 39, 10, 41] c
  rw [Bool.eq_iff_iff, decide_eq_true_eq, this]
  simp [qB, ← UInt8.toNat_inj, and_assoc]
def qR (l : Bs) (i : Nat) : (Nat × Nat) × Nat × Bool :=
  if isQ l i then ((i + 1, skip qB l (i + 1)), skip qB l (i + 1) + 1, decide (skip qB l (i + 1) < l.length ∧ l[skip qB l (i + 1)]?.getD 0 = l[i]?.getD 0)) else ((0, 0), i, false)
theorem isQ_int (l : Bs) (e : Nat) : isQ l e ↔ e < l.length ∧ (((l[e]?.getD 0).toNat : Int) = 34 ∨ ((l[e]?.getD 0).toNat : Int) = 39) := by
  unfold isQ
  by_cases he : e < l.length
  · rw [List.getElem?_eq_getElem he]
    simp only [Option.some.injEq, Option.getD_some, he, true_and, ← UInt8.toNat_inj]
    constructor
    · rintro (h | h)
      · exact .inl (by rw [h]; rfl)
      · exact .inr (by rw [h]; rfl)
    · rintro (h | h)
      · exact .inl (by show _ = 34; omega)
      · exact .inr (by show _ = 39; omega)
  · simp [he]
theorem rQuoted_ok (l : Bs) (i : Nat) (hi : i ≤ l.length) (hm : l.length ≤ 200000) : FnOk Tryd.prog 46 [str l, int i] (.tup [.agg (encS (qR l i).1), int (qR l i).2.1, tru (qR l i).2.2]) := by
  refine fnOk Tryd.func46 rfl (by kernel_rfl) Tryd.ntmps46 _ rfl (by simp) fun C hc => ?_
  have hiq := isQ_int l i
  unfold qR
  repeat' (first | (first | refine ewp_seq ?_ | refine run_region hc (by simp; exact Ends.go) (by first | exact True.intro | omega | (simp; done) | (simp; omega) | (simp at *; omega)) ?_ | refine run_draw hc (by kernel_rfl) (by kernel_rfl) (by simp; exact Ends.go) (by first | exact True.intro | omega | (simp; done) | (simp; omega) | (simp at *; omega)) ?_ | refine ewp_scope ?_ | refine scopeQ_normal ?_ | refine scopeQ_ret ?_ | refine scopeQ_exit ?_ | refine ewp_skip ?_ | refine ewp_block ?_ | refine ewp_exit ?_ | refine ewp_label ?_ | refine thenQ_normal ?_ | refine thenQ_ret ?_ | refine thenQ_exit ?_ | refine blockQ_normal ?_ | refine blockQ_ret ?_ | refine blockQ_here ?_ | refine blockQ_there (by decide) ?_ | refine ewp_ret ?_ | refine opsW_nil ?_ | refine quietW_nil ?_ | (refine run_cond (by simp; exact Gives.mk) (fun hb => ?_) (fun hb => ?_) <;> (try simp at hb)) | fail) | (first | refine run_callW hc (by simp; exact Gives.mk) (by simp; exact Gives.mk) (by simp; exact Gives.mk) (by simp; exact Gives.mk) (by simp; exact Gives.mk) (fun _ => by first | exact trivial) (by simp) (by simp) ?_ | refine run_callQ hc (by simp; exact Gives.mk) (by simp; exact Gives.mk) (by simp; exact Gives.mk) (by simp; exact Gives.mk) (by simp; exact Gives.mk) (fun _ => by first | exact trivial) (by simp) (by simp) ?_ | refine run_ops hc (by simp; first | exact Ends.go | exact Ends.halt) (by decide) (by first | exact True.intro | omega | (simp; done) | (simp; omega) | (simp at *; omega)) ?_ | refine run_quiet hc (by simp; first | exact Ends.go | exact Ends.halt) (by decide) (by first | exact True.intro | omega | (simp; done) | (simp; omega) | (simp at *; omega)) ?_ | refine run_regionW hc (by simp; exact Ends.halt) (by first | exact True.intro | omega | (simp; done) | (simp; omega) | (simp at *; omega)) ?_ | refine run_drawN hc (by kernel_rfl) (by decide) (by kernel_rfl) (by simp; exact Ends.halt) (by first | exact True.intro | omega | (simp; done) | (simp; omega) | (simp at *; omega)) ?_ | fail))
  · rw [if_neg (by
      rw [hiq]
      rintro ⟨h1, h2⟩
      rcases hb with hb | hb
      · omega
      · rcases h2 with h2 | h2
        · exact hb.1 h2
        · exact hb.2 h2)]
    (refine run_leave hc (by simp; exact Gives.mk) ?_)
    simp
  have hlt : i < l.length := hb.1
  rw [if_pos (hiq.2 ⟨hb.1, by
    by_cases h : ((l[i]?.getD 0).toNat : Int) = 34
    · exact .inl h
    · exact .inr (hb.2 h)⟩)]
  refine ewp_loop (fun j : Nat => ⟨[(0, .d (str l)), (1, .d (int i)), (4, .bp 4 0), (5, .d (int 0)), (6, .d (tru false)), (7, .d (int j))], [(4, .box 30 [.d (int 0), .d (int 0)])]⟩) (fun j => i + 1 ≤ j ∧ j ≤ l.length ∧ skip qB l j = skip qB l (i + 1)) (fun j => l.length - j) (i + 1) (by simp; omega) (run_keep [0, 1, 4, 5, 6, 7] [4] (by simp; exact Gives.mk) (by simp; exact Gives.mk)) ?_
  rintro j ⟨h1, h2, h3⟩
  have hs := fun h => skip_step qB l j h
  have he := fun h => skip_end qB l j h
  have hq := qB_eq (l[j]?.getD 0)
  repeat' (first | (first | refine ewp_seq ?_ | refine run_region hc (by simp; exact Ends.go) (by first | exact True.intro | omega | (simp; done) | (simp; omega) | (simp at *; omega)) ?_ | refine run_draw hc (by kernel_rfl) (by kernel_rfl) (by simp; exact Ends.go) (by first | exact True.intro | omega | (simp; done) | (simp; omega) | (simp at *; omega)) ?_ | refine ewp_scope ?_ | refine scopeQ_normal ?_ | refine scopeQ_ret ?_ | refine scopeQ_exit ?_ | refine ewp_skip ?_ | refine ewp_block ?_ | refine ewp_exit ?_ | refine ewp_label ?_ | refine thenQ_normal ?_ | refine thenQ_ret ?_ | refine thenQ_exit ?_ | refine blockQ_normal ?_ | refine blockQ_ret ?_ | refine blockQ_here ?_ | refine blockQ_there (by decide) ?_ | refine ewp_ret ?_ | refine opsW_nil ?_ | refine quietW_nil ?_ | (refine run_cond (by simp; exact Gives.mk) (fun hb => ?_) (fun hb => ?_) <;> (try simp at hb)) | fail) | (first | refine run_callW hc (by simp; exact Gives.mk) (by simp; exact Gives.mk) (by simp; exact Gives.mk) (by simp; exact Gives.mk) (by simp; exact Gives.mk) (fun _ => by first | exact indexByte_ok [34, 39, 10, 41] _) (by simp) (by simp) ?_ | refine run_callQ hc (by simp; exact Gives.mk) (by simp; exact Gives.mk) (by simp; exact Gives.mk) (by simp; exact Gives.mk) (by simp; exact Gives.mk) (fun _ => by first | exact indexByte_ok [34, 39, 10, 41] _) (by simp) (by simp) ?_ | refine run_ops hc (by simp; first | exact Ends.go | exact Ends.halt) (by decide) (by first | exact True.intro | omega | (simp; done) | (simp; omega) | (simp at *; omega)) ?_ | refine run_quiet hc (by simp; first | exact Ends.go | exact Ends.halt) (by decide) (by first | exact True.intro | omega | (simp; done) | (simp; omega) | (simp at *; omega)) ?_ | refine run_regionW hc (by simp; exact Ends.halt) (by first | exact True.intro | omega | (simp; done) | (simp; omega) | (simp at *; omega)) ?_ | refine run_drawN hc (by kernel_rfl) (by decide) (by kernel_rfl) (by simp; exact Ends.halt) (by first | exact True.intro | omega | (simp; done) | (simp; omega) | (simp at *; omega)) ?_ | fail))
  · refine ⟨j + 1, ⟨by omega, by omega, ?_⟩, by omega, run_back [0, 1, 4, 5, 6, 7] [4] (by simp; exact Gives.mk) (by simp; exact Gives.mk) (by simp)⟩
    rw [← h3, hs hb.1, if_pos (by rw [hq]; simpa using hb.2)]
  · have e : skip qB l (i + 1) = j := by
      rw [← h3]
      by_cases hj : j < l.length
      · rw [hs hj, if_neg (by rw [hq]; have := hb hj; simp; omega)]
      · exact he (by omega)
    rw [e]
    (apply run_drawAny 22 hc (by kernel_rfl) rfl; (focus (refine run_anyM 0 hc rfl (by kernel_rfl) rfl (by first | exact .inl rfl | exact .inr rfl) (by simp; exact Gives.mk) (by simp) (by simp; exact Gives.mk) ?_; refine run_anyP 1 hc rfl (by kernel_rfl) rfl (by simp; exact Gives.mk) (by first | exact True.intro | omega | (simp; done) | (simp; omega) | (simp at *; omega)) (by simp) (by simp) (by simp; exact Gives.mk) ?_; refine run_anyM 2 hc rfl (by kernel_rfl) rfl (by first | exact .inl rfl | exact .inr rfl) (by simp; exact Gives.mk) (by simp) (by simp; exact Gives.mk) ?_; refine run_anyP 3 hc rfl (by kernel_rfl) rfl (by simp; exact Gives.mk) (by first | exact True.intro | omega | (simp; done) | (simp; omega) | (simp at *; omega)) (by simp) (by simp) (by simp; exact Gives.mk) ?_; refine run_anyM 4 hc rfl (by kernel_rfl) rfl (by first | exact .inl rfl | exact .inr rfl) (by simp; exact Gives.mk) (by simp) (by simp; exact Gives.mk) ?_; refine run_anyP 5 hc rfl (by kernel_rfl) rfl (by simp; exact Gives.mk) (by first | exact True.intro | omega | (simp; done) | (simp; omega) | (simp at *; omega)) (by simp) (by simp) (by simp; exact Gives.mk) ?_; refine run_anyM 6 hc rfl (by kernel_rfl) rfl (by first | exact .inl rfl | exact .inr rfl) (by simp; exact Gives.mk) (by simp) (by simp; exact Gives.mk) ?_; refine run_anyM 7 hc rfl (by kernel_rfl) rfl (by first | exact .inl rfl | exact .inr rfl) (by simp; exact Gives.mk) (by simp) (by simp; exact Gives.mk) ?_; refine run_anyG 8 hc rfl (by kernel_rfl) (by simp; exact Gives.mk) (by simp; exact Gives.mk) (fun _ => (by first | exact True.intro | omega | (simp; done) | (simp; omega) | (simp at *; omega))) (by simp) (by simp) (by simp; exact Gives.mk) ?_; refine run_anyP 9 hc rfl (by kernel_rfl) rfl (by simp; exact Gives.mk) (by first | exact True.intro | omega | (simp; done) | (simp; omega) | (simp at *; omega)) (by simp) (by simp) (by simp; exact Gives.mk) ?_; refine run_anyM 10 hc rfl (by kernel_rfl) rfl (by first | exact .inl rfl | exact .inr rfl) (by simp; exact Gives.mk) (by simp) (by simp; exact Gives.mk) ?_; refine run_anyG 11 hc rfl (by kernel_rfl) (by simp; exact Gives.mk) (by simp; exact Gives.mk) (fun _ => (by first | exact True.intro | omega | (simp; done) | (simp; omega) | (simp at *; omega))) (by simp) (by simp) (by simp; exact Gives.mk) ?_; refine run_anyG 12 hc rfl (by kernel_rfl) (by simp; exact Gives.mk) (by simp; exact Gives.mk) (fun _ => (by first | exact True.intro | omega | (simp; done) | (simp; omega) | (simp at *; omega))) (by simp) (by simp) (by simp; exact Gives.mk) ?_; refine run_anyG 13 hc rfl (by kernel_rfl) (by simp; exact Gives.mk) (by simp; exact Gives.mk) (fun _ => (by first | exact True.intro | omega | (simp; done) | (simp; omega) | (simp at *; omega))) (by simp) (by simp) (by simp; exact Gives.mk) ?_; refine run_anyG 14 hc rfl (by kernel_rfl) (by simp; exact Gives.mk) (by simp; exact Gives.mk) (fun _ => (by first | exact True.intro | omega | (simp; done) | (simp; omega) | (simp at *; omega))) (by simp) (by simp) (by simp; exact Gives.mk) ?_; refine run_anyG 15 hc rfl (by kernel_rfl) (by simp; exact Gives.mk) (by simp; exact Gives.mk) (fun _ => (by first | exact True.intro | omega | (simp; done) | (simp; omega) | (simp at *; omega))) (by simp) (by simp) (by simp; exact Gives.mk) ?_; refine run_anyG 16 hc rfl (by kernel_rfl) (by simp; exact Gives.mk) (by simp; exact Gives.mk) (fun _ => (by first | exact True.intro | omega | (simp; done) | (simp; omega) | (simp at *; omega))) (by simp) (by simp) (by simp; exact Gives.mk) ?_; refine run_anyG 17 hc rfl (by kernel_rfl) (by simp; exact Gives.mk) (by simp; exact Gives.mk) (fun _ => (by first | exact True.intro | omega | (simp; done) | (simp; omega) | (simp at *; omega))) (by simp) (by simp) (by simp; exact Gives.mk) ?_; refine run_anyP 18 hc rfl (by kernel_rfl) rfl (by simp; exact Gives.mk) (by first | exact True.intro | omega | (simp; done) | (simp; omega) | (simp at *; omega)) (by simp) (by simp) (by simp; exact Gives.mk) ?_; refine anyW_all [19] (by kernel_rfl) rfl ?_; (focus (refine run_stepW hc rfl (by simp; exact Ends.go) (by first | exact True.intro | omega | (simp; done) | (simp; omega) | (simp at *; omega)) ?_; refine run_anyM 20 hc rfl (by kernel_rfl) rfl (by first | exact .inl rfl | exact .inr rfl) (by simp; exact Gives.mk) (by simp) (by simp; exact Gives.mk) ?_; refine run_anyM 21 hc rfl (by kernel_rfl) rfl (by first | exact .inl rfl | exact .inr rfl) (by simp; exact Gives.mk) (by simp) (by simp; exact Gives.mk) ?_; refine anyW_done (by kernel_rfl) ?_; exact run_keep [0, 1, 4, 5, 6, 7] [4] (by simp; try exact Gives.mk) (by simp; try exact Gives.mk))))))
    repeat' (first | (first | refine ewp_seq ?_ | refine run_region hc (by simp; exact Ends.go) (by first | exact True.intro | omega | (simp; done) | (simp; omega) | (simp at *; omega)) ?_ | refine run_draw hc (by kernel_rfl) (by kernel_rfl) (by simp; exact Ends.go) (by first | exact True.intro | omega | (simp; done) | (simp; omega) | (simp at *; omega)) ?_ | refine ewp_scope ?_ | refine scopeQ_normal ?_ | refine scopeQ_ret ?_ | refine scopeQ_exit ?_ | refine ewp_skip ?_ | refine ewp_block ?_ | refine ewp_exit ?_ | refine ewp_label ?_ | refine thenQ_normal ?_ | refine thenQ_ret ?_ | refine thenQ_exit ?_ | refine blockQ_normal ?_ | refine blockQ_ret ?_ | refine blockQ_here ?_ | refine blockQ_there (by decide) ?_ | refine ewp_ret ?_ | refine opsW_nil ?_ | refine quietW_nil ?_ | (refine run_cond (by simp; exact Gives.mk) (fun hb => ?_) (fun hb => ?_) <;> (try simp at hb)) | fail) | (first | refine run_callW hc (by simp; exact Gives.mk) (by simp; exact Gives.mk) (by simp; exact Gives.mk) (by simp; exact Gives.mk) (by simp; exact Gives.mk) (fun _ => by first | exact trivial) (by simp) (by simp) ?_ | refine run_callQ hc (by simp; exact Gives.mk) (by simp; exact Gives.mk) (by simp; exact Gives.mk) (by simp; exact Gives.mk) (by simp; exact Gives.mk) (fun _ => by first | exact trivial) (by simp) (by simp) ?_ | refine run_ops hc (by simp; first | exact Ends.go | exact Ends.halt) (by decide) (by first | exact True.intro | omega | (simp; done) | (simp; omega) | (simp at *; omega)) ?_ | refine run_quiet hc (by simp; first | exact Ends.go | exact Ends.halt) (by decide) (by first | exact True.intro | omega | (simp; done) | (simp; omega) | (simp at *; omega)) ?_ | refine run_regionW hc (by simp; exact Ends.halt) (by first | exact True.intro | omega | (simp; done) | (simp; omega) | (simp at *; omega)) ?_ | refine run_drawN hc (by kernel_rfl) (by decide) (by kernel_rfl) (by simp; exact Ends.halt) (by first | exact True.intro | omega | (simp; done) | (simp; omega) | (simp at *; omega)) ?_ | fail))
    (refine run_leave hc (by simp; exact Gives.mk) ?_)
    simp [← UInt8.toNat_inj]
    congr 1
    rw [Bool.eq_iff_iff]; simp; omega
/-- Inside a style, as the reference reads it. -/
def inR (l : Bs) (i : Nat) : (Nat × Nat) × Nat × Bool :=
  if wrd l i impW = true then ((qR l (skip isBl l (i + 7))).1, (qR l (skip isBl l (i + 7))).2.1, (qR l (skip isBl l (i + 7))).2.2 && decide (i + 7 < skip isBl l (i + 7)))
  else if wrd l i urlW = true then
    if (qR l (skip isBl l (i + 4))).2.2 = true then
      ((qR l (skip isBl l (i + 4))).1, skip isBl l (qR l (skip isBl l (i + 4))).2.1 + 1, decide (l[skip isBl l (qR l (skip isBl l (i + 4))).2.1]? = some 41))
    else ((skip isBl l (i + 4), skip uB l (skip isBl l (i + 4))), skip isBl l (skip uB l (skip isBl l (i + 4))) + 1, decide (skip isBl l (i + 4) < skip uB l (skip isBl l (i + 4))) && decide (l[skip isBl l (skip uB l (skip isBl l (i + 4)))]? = some 41))
  else ((0, 0), i, false)
theorem qR_quo (l : Bs) (i : Nat) : (qR l i).2.2 = (quo l i).1.isSome ∧ (∀ x, (quo l i).1 = some x → (qR l i).1 = x ∧ (qR l i).2.1 = (quo l i).2) := by
  unfold qR quo
  split
  · split
    · rename_i h; exact ⟨decide_eq_true h, fun x hx => by cases hx; exact ⟨rfl, rfl⟩⟩
    · rename_i h; exact ⟨decide_eq_false h, fun x hx => by cases hx⟩
  · exact ⟨rfl, fun x hx => by cases hx⟩
theorem qR_le (l : Bs) (i : Nat) (hi : i ≤ l.length) : (qR l i).2.1 ≤ l.length + 1 ∧ ((qR l i).2.2 = true → (qR l i).2.1 ≤ l.length) := by
  unfold qR
  split
  · rename_i h
    have hlt : i < l.length := by rcases h with h | h <;> exact (List.getElem?_eq_some_iff.1 h).1
    have h2 := skip_le qB l (i + 1) (by omega)
    exact ⟨by simp; omega, fun h => by simp at h ⊢; omega⟩
  · exact ⟨by simp; omega, fun h => by cases h⟩
theorem wrd_one {l : Bs} {i : Nat} (h : wrd l i urlW = true) : wrd l i impW = false := by
  simp only [wrd, Bool.and_eq_true, decide_eq_true_eq] at h
  simp only [wrd, Bool.and_eq_false_iff, decide_eq_false_iff_not]
  by_cases h1 : i + impW.length ≤ l.length
  · right
    intro e
    have e1 := congrArg (fun x => x[0]?) h.2
    have e2 := congrArg (fun x => x[0]?) e
    simp only [small, List.getElem?_map, List.getElem?_drop, Nat.add_zero, List.getElem?_take] at e1 e2
    rw [if_pos (by simp [urlW])] at e1
    rw [if_pos (by simp [impW])] at e2
    rw [e1] at e2
    exact absurd e2 (by decide)
  · exact .inl h1
theorem sty_inR (l : Bs) (i : Nat) (hi : i ≤ l.length) : sty l i = if (inR l i).2.2 = true then some ((inR l i).1, (inR l i).2.1) else none := by
  unfold sty inR
  by_cases hu : wrd l i urlW = true
  · have him := wrd_one hu
    have hil := wrd_len hu
    simp only [show urlW.length = 4 from rfl] at hil
    have h2 := skip_le isBl l (i + 4) hil
    have hI : impP l i = (none, i) := by unfold impP; rw [if_neg (by rw [him]; decide)]
    rw [hI]
    unfold urlP
    simp only [him, hu, Bool.false_eq_true, if_false, if_true]
    generalize skip isBl l (i + 4) = b at h2 ⊢
    have hqq := qR_quo l b
    cases hq : (quo l b).1 with
    | some x =>
      rw [hq] at hqq
      obtain ⟨q1, q2⟩ := hqq
      obtain ⟨q3, q4⟩ := q2 x rfl
      rw [show quo l b = (some x, (quo l b).2) from by rw [← hq]]
      have q1' : (qR l b).2.2 = true := q1
      simp only [q1', q3, q4, if_true]
      by_cases h41 : l[skip isBl l (quo l b).2]? = some 41
      · simp [h41]
      · simp [h41]
    | none =>
      rw [hq] at hqq
      rw [show quo l b = (none, (quo l b).2) from by rw [← hq]]
      have q1' : (qR l b).2.2 = false := hqq.1
      simp only [q1', Bool.false_eq_true, if_false]
      by_cases hQ : isQ l b
      · have hub : skip uB l b = b := by
          have hlt : b < l.length := by rcases hQ with h | h <;> exact (List.getElem?_eq_some_iff.1 h).1
          rw [skip_step uB l b hlt, if_neg]
          rcases hQ with h | h
          · rw [h]; decide
          · rw [h]; decide
        have hbl : b < l.length := by rcases hQ with h | h <;> exact (List.getElem?_eq_some_iff.1 h).1
        have hq2 : (quo l b).2 = skip qB l (b + 1) := by
          unfold quo at hq ⊢
          rw [if_pos hQ] at hq ⊢
          split at hq
          · cases hq
          · rename_i hh; rw [if_neg hh]
        have hue : ¬ isQ l (quo l b).2 → skip uB l (quo l b).2 = (quo l b).2 := by
          rw [hq2]
          intro hn
          by_cases hle : skip qB l (b + 1) < l.length
          · have hst := skip_stop hle
            rw [skip_step uB l _ hle, if_neg]
            simp only [qB, Bool.and_eq_false_iff, decide_eq_false_iff_not, ne_eq, Decidable.not_not] at hst
            generalize hg : l[skip qB l (b + 1)]?.getD 0 = c at hst ⊢
            have hgl : l[skip qB l (b + 1)]? = some c := by rw [List.getElem?_eq_getElem hle] at hg ⊢; exact congrArg some hg
            have hn' : ¬ (c = 34 ∨ c = 39) := by
              rintro (h | h)
              · exact hn (.inl (by rw [hgl, h]))
              · exact hn (.inr (by rw [hgl, h]))
            have hc : c = 10 ∨ c = 41 := by
              rcases hst with ((h | h) | h) | h
              · exact absurd (.inl (UInt8.toNat_inj.1 h)) hn'
              · exact absurd (.inr (UInt8.toNat_inj.1 h)) hn'
              · exact .inl (UInt8.toNat_inj.1 h)
              · exact .inr (UInt8.toNat_inj.1 h)
            rcases hc with rfl | rfl <;> decide
          · exact skip_end uB l _ (by omega)
        rw [hub]
        by_cases hn : isQ l (quo l b).2
        · rw [if_pos hn]; simp
        · rw [if_neg hn, if_pos (hue hn)]; simp
      · have hq2 : (quo l b).2 = b := by unfold quo; rw [if_neg hQ]
        rw [hq2, if_neg hQ]
        have h3 := skip_ge uB l b
        by_cases ht : skip uB l b = b
        · rw [if_pos ht, ht]; simp
        · rw [if_neg ht]
          have hlt : b < skip uB l b := by omega
          by_cases h41 : l[skip isBl l (skip uB l b)]? = some 41
          · simp [h41, hlt]
          · simp [h41]
  · have hU : urlP l i = (none, i) := by unfold urlP; rw [if_neg hu]
    rw [hU]
    simp only
    unfold impP
    by_cases hm : wrd l i impW = true
    · simp only [hm, if_true]
      have h1 := skip_ge isBl l (i + 7)
      generalize skip isBl l (i + 7) = b at h1 ⊢
      have hqq := qR_quo l b
      by_cases hb : b = i + 7
      · rw [if_pos hb, hb]; simp
      · rw [if_neg hb]
        have hlt : i + 7 < b := by omega
        cases hq : (quo l b).1 with
        | some x =>
          rw [hq] at hqq
          obtain ⟨q1, q2⟩ := hqq
          obtain ⟨q3, q4⟩ := q2 x rfl
          simp [q1, q3, q4, hlt]
        | none =>
          rw [hq] at hqq
          simp [hqq.1]
    · simp only [hm, hu, Bool.false_eq_true, if_false]
theorem rInside_ok (l : Bs) (i : Nat) (hi : i ≤ l.length) (hm : l.length ≤ 200000) : FnOk Tryd.prog 35 [str l, int i] (.tup [.agg (encS (inR l i).1), int (inR l i).2.1, tru (inR l i).2.2]) := by
  refine fnOk Tryd.func35 rfl (by kernel_rfl) Tryd.ntmps35 _ rfl (by simp) fun C hc => ?_
  have hwi := wordAt_ok l impW i hi hm (by simp [impW])
  have hwu := wordAt_ok l urlW i hi hm (by simp [urlW])
  unfold inR
  by_cases him : wrd l i impW = true
  · rw [if_pos him]
    have hil := wrd_len him
    simp only [show impW.length = 7 from rfl] at hil
    rw [him] at hwi
    have h1 := skip_ge isBl l (i + 7)
    have h2 := skip_le isBl l (i + 7) hil
    have hbk := rBlanks_ok l (i + 7) (by omega) hm
    generalize skip isBl l (i + 7) = b at h1 h2 hbk ⊢
    have hq := rQuoted_ok l b h2 hm
    have hql := qR_le l b h2
    generalize qR l b = q at hq hql ⊢
    obtain ⟨x, p, o⟩ := q
    simp only at hq hql ⊢
    repeat' (first | (first | refine ewp_seq ?_ | refine run_region hc (by simp; exact Ends.go) (by first | exact True.intro | omega | (simp; done) | (simp; omega) | (simp at *; omega)) ?_ | refine run_draw hc (by kernel_rfl) (by kernel_rfl) (by simp; exact Ends.go) (by first | exact True.intro | omega | (simp; done) | (simp; omega) | (simp at *; omega)) ?_ | refine ewp_scope ?_ | refine scopeQ_normal ?_ | refine scopeQ_ret ?_ | refine scopeQ_exit ?_ | refine ewp_skip ?_ | refine ewp_block ?_ | refine ewp_exit ?_ | refine ewp_label ?_ | refine thenQ_normal ?_ | refine thenQ_ret ?_ | refine thenQ_exit ?_ | refine blockQ_normal ?_ | refine blockQ_ret ?_ | refine blockQ_here ?_ | refine blockQ_there (by decide) ?_ | refine ewp_ret ?_ | refine opsW_nil ?_ | refine quietW_nil ?_ | (refine run_cond (by simp; exact Gives.mk) (fun hb => ?_) (fun hb => ?_) <;> (try simp at hb)) | fail) | (first | refine run_callW hc (by simp; exact Gives.mk) (by simp; exact Gives.mk) (by simp; exact Gives.mk) (by simp; exact Gives.mk) (by simp; exact Gives.mk) (fun _ => by first | exact hwi | exact hbk | exact hq) (by simp) (by simp) ?_ | refine run_callQ hc (by simp; exact Gives.mk) (by simp; exact Gives.mk) (by simp; exact Gives.mk) (by simp; exact Gives.mk) (by simp; exact Gives.mk) (fun _ => by first | exact hwi | exact hbk | exact hq) (by simp) (by simp) ?_ | refine run_ops hc (by simp; first | exact Ends.go | exact Ends.halt) (by decide) (by first | exact True.intro | omega | (simp; done) | (simp; omega) | (simp at *; omega)) ?_ | refine run_quiet hc (by simp; first | exact Ends.go | exact Ends.halt) (by decide) (by first | exact True.intro | omega | (simp; done) | (simp; omega) | (simp at *; omega)) ?_ | refine run_regionW hc (by simp; exact Ends.halt) (by first | exact True.intro | omega | (simp; done) | (simp; omega) | (simp at *; omega)) ?_ | refine run_drawN hc (by kernel_rfl) (by decide) (by kernel_rfl) (by simp; exact Ends.halt) (by first | exact True.intro | omega | (simp; done) | (simp; omega) | (simp at *; omega)) ?_ | fail))
    all_goals try contradiction
    (refine run_leave hc (by simp; exact Gives.mk) ?_)
    simp
    congr 1
    rw [Bool.eq_iff_iff]; simp; omega
  rw [if_neg him]
  rw [Bool.eq_false_iff.2 him] at hwi
  by_cases hu : wrd l i urlW = true
  rotate_left
  · rw [if_neg hu]
    rw [Bool.eq_false_iff.2 hu] at hwu
    repeat' (first | (first | refine ewp_seq ?_ | refine run_region hc (by simp; exact Ends.go) (by first | exact True.intro | omega | (simp; done) | (simp; omega) | (simp at *; omega)) ?_ | refine run_draw hc (by kernel_rfl) (by kernel_rfl) (by simp; exact Ends.go) (by first | exact True.intro | omega | (simp; done) | (simp; omega) | (simp at *; omega)) ?_ | refine ewp_scope ?_ | refine scopeQ_normal ?_ | refine scopeQ_ret ?_ | refine scopeQ_exit ?_ | refine ewp_skip ?_ | refine ewp_block ?_ | refine ewp_exit ?_ | refine ewp_label ?_ | refine thenQ_normal ?_ | refine thenQ_ret ?_ | refine thenQ_exit ?_ | refine blockQ_normal ?_ | refine blockQ_ret ?_ | refine blockQ_here ?_ | refine blockQ_there (by decide) ?_ | refine ewp_ret ?_ | refine opsW_nil ?_ | refine quietW_nil ?_ | (refine run_cond (by simp; exact Gives.mk) (fun hb => ?_) (fun hb => ?_) <;> (try simp at hb)) | fail) | (first | refine run_callW hc (by simp; exact Gives.mk) (by simp; exact Gives.mk) (by simp; exact Gives.mk) (by simp; exact Gives.mk) (by simp; exact Gives.mk) (fun _ => by first | exact hwi | exact hwu) (by simp) (by simp) ?_ | refine run_callQ hc (by simp; exact Gives.mk) (by simp; exact Gives.mk) (by simp; exact Gives.mk) (by simp; exact Gives.mk) (by simp; exact Gives.mk) (fun _ => by first | exact hwi | exact hwu) (by simp) (by simp) ?_ | refine run_ops hc (by simp; first | exact Ends.go | exact Ends.halt) (by decide) (by first | exact True.intro | omega | (simp; done) | (simp; omega) | (simp at *; omega)) ?_ | refine run_quiet hc (by simp; first | exact Ends.go | exact Ends.halt) (by decide) (by first | exact True.intro | omega | (simp; done) | (simp; omega) | (simp at *; omega)) ?_ | refine run_regionW hc (by simp; exact Ends.halt) (by first | exact True.intro | omega | (simp; done) | (simp; omega) | (simp at *; omega)) ?_ | refine run_drawN hc (by kernel_rfl) (by decide) (by kernel_rfl) (by simp; exact Ends.halt) (by first | exact True.intro | omega | (simp; done) | (simp; omega) | (simp at *; omega)) ?_ | fail))
    all_goals try contradiction
    (refine run_leave hc (by simp; exact Gives.mk) ?_)
    simp
  rw [if_pos hu]
  have hil := wrd_len hu
  simp only [show urlW.length = 4 from rfl] at hil
  rw [hu] at hwu
  have h1 := skip_ge isBl l (i + 4)
  have h2 := skip_le isBl l (i + 4) hil
  have hbk := rBlanks_ok l (i + 4) (by omega) hm
  generalize skip isBl l (i + 4) = b at h1 h2 hbk ⊢
  have hq := rQuoted_ok l b h2 hm
  have hql := qR_le l b h2
  generalize qR l b = q at hq hql ⊢
  obtain ⟨x, p, o⟩ := q
  simp only at hq hql ⊢
  cases o
  · rw [if_neg (by decide)]
    have h3 := skip_ge uB l b
    have h4 := skip_le uB l b h2
    repeat' (first | (first | refine ewp_seq ?_ | refine run_region hc (by simp; exact Ends.go) (by first | exact True.intro | omega | (simp; done) | (simp; omega) | (simp at *; omega)) ?_ | refine run_draw hc (by kernel_rfl) (by kernel_rfl) (by simp; exact Ends.go) (by first | exact True.intro | omega | (simp; done) | (simp; omega) | (simp at *; omega)) ?_ | refine ewp_scope ?_ | refine scopeQ_normal ?_ | refine scopeQ_ret ?_ | refine scopeQ_exit ?_ | refine ewp_skip ?_ | refine ewp_block ?_ | refine ewp_exit ?_ | refine ewp_label ?_ | refine thenQ_normal ?_ | refine thenQ_ret ?_ | refine thenQ_exit ?_ | refine blockQ_normal ?_ | refine blockQ_ret ?_ | refine blockQ_here ?_ | refine blockQ_there (by decide) ?_ | refine ewp_ret ?_ | refine opsW_nil ?_ | refine quietW_nil ?_ | (refine run_cond (by simp; exact Gives.mk) (fun hb => ?_) (fun hb => ?_) <;> (try simp at hb)) | fail) | (first | refine run_callW hc (by simp; exact Gives.mk) (by simp; exact Gives.mk) (by simp; exact Gives.mk) (by simp; exact Gives.mk) (by simp; exact Gives.mk) (fun _ => by first | exact hwi | exact hwu | exact hbk | exact hq) (by simp) (by simp) ?_ | refine run_callQ hc (by simp; exact Gives.mk) (by simp; exact Gives.mk) (by simp; exact Gives.mk) (by simp; exact Gives.mk) (by simp; exact Gives.mk) (fun _ => by first | exact hwi | exact hwu | exact hbk | exact hq) (by simp) (by simp) ?_ | refine run_ops hc (by simp; first | exact Ends.go | exact Ends.halt) (by decide) (by first | exact True.intro | omega | (simp; done) | (simp; omega) | (simp at *; omega)) ?_ | refine run_quiet hc (by simp; first | exact Ends.go | exact Ends.halt) (by decide) (by first | exact True.intro | omega | (simp; done) | (simp; omega) | (simp at *; omega)) ?_ | refine run_regionW hc (by simp; exact Ends.halt) (by first | exact True.intro | omega | (simp; done) | (simp; omega) | (simp at *; omega)) ?_ | refine run_drawN hc (by kernel_rfl) (by decide) (by kernel_rfl) (by simp; exact Ends.halt) (by first | exact True.intro | omega | (simp; done) | (simp; omega) | (simp at *; omega)) ?_ | fail))
    all_goals try contradiction
    refine ewp_loop (fun j : Nat => ⟨[(0, .d (str l)), (1, .d (int i)), (4, .bp 4 0), (11, .d (int b)), (12, .bp 12 0), (13, .d (int j))], [(4, .box 30 [.d (int 0), .d (int 0)]), (12, .box 30 [.d (int x.1), .d (int x.2)])]⟩) (fun j => b ≤ j ∧ j ≤ l.length ∧ skip uB l j = skip uB l b) (fun j => l.length - j) b (by simp; omega) (run_keep [0, 1, 4, 11, 12, 13] [4, 12] (by simp; exact Gives.mk) (by simp; exact Gives.mk)) ?_
    rintro j ⟨j1, j2, j3⟩
    have hs := fun h => skip_step uB l j h
    have he := fun h => skip_end uB l j h
    have hub : uB (l[j]?.getD 0) = true ↔ isBl (l[j]?.getD 0) = false ∧ Lib.indexByte uset (l[j]?.getD 0) < 0 := by
      rw [index_neg]; simp [uB]
    repeat' (first | (first | refine ewp_seq ?_ | refine run_region hc (by simp; exact Ends.go) (by first | exact True.intro | omega | (simp; done) | (simp; omega) | (simp at *; omega)) ?_ | refine run_draw hc (by kernel_rfl) (by kernel_rfl) (by simp; exact Ends.go) (by first | exact True.intro | omega | (simp; done) | (simp; omega) | (simp at *; omega)) ?_ | refine ewp_scope ?_ | refine scopeQ_normal ?_ | refine scopeQ_ret ?_ | refine scopeQ_exit ?_ | refine ewp_skip ?_ | refine ewp_block ?_ | refine ewp_exit ?_ | refine ewp_label ?_ | refine thenQ_normal ?_ | refine thenQ_ret ?_ | refine thenQ_exit ?_ | refine blockQ_normal ?_ | refine blockQ_ret ?_ | refine blockQ_here ?_ | refine blockQ_there (by decide) ?_ | refine ewp_ret ?_ | refine opsW_nil ?_ | refine quietW_nil ?_ | (refine run_cond (by simp; exact Gives.mk) (fun hb => ?_) (fun hb => ?_) <;> (try simp at hb)) | fail) | (first | refine run_callW hc (by simp; exact Gives.mk) (by simp; exact Gives.mk) (by simp; exact Gives.mk) (by simp; exact Gives.mk) (by simp; exact Gives.mk) (fun _ => by first | exact rBlank_ok _ | exact indexByte_ok uset _) (by simp) (by simp) ?_ | refine run_callQ hc (by simp; exact Gives.mk) (by simp; exact Gives.mk) (by simp; exact Gives.mk) (by simp; exact Gives.mk) (by simp; exact Gives.mk) (fun _ => by first | exact rBlank_ok _ | exact indexByte_ok uset _) (by simp) (by simp) ?_ | refine run_ops hc (by simp; first | exact Ends.go | exact Ends.halt) (by decide) (by first | exact True.intro | omega | (simp; done) | (simp; omega) | (simp at *; omega)) ?_ | refine run_quiet hc (by simp; first | exact Ends.go | exact Ends.halt) (by decide) (by first | exact True.intro | omega | (simp; done) | (simp; omega) | (simp at *; omega)) ?_ | refine run_regionW hc (by simp; exact Ends.halt) (by first | exact True.intro | omega | (simp; done) | (simp; omega) | (simp at *; omega)) ?_ | refine run_drawN hc (by kernel_rfl) (by decide) (by kernel_rfl) (by simp; exact Ends.halt) (by first | exact True.intro | omega | (simp; done) | (simp; omega) | (simp at *; omega)) ?_ | fail))
    · refine ⟨j + 1, ⟨by omega, by omega, ?_⟩, by omega, run_back [0, 1, 4, 11, 12, 13] [4, 12] (by simp; exact Gives.mk) (by simp; exact Gives.mk) (by simp)⟩
      rw [← j3, hs hb.1.1, if_pos (hub.2 ⟨hb.1.2, hb.2⟩)]
    · have et : skip uB l b = j := by
        rw [← j3]
        by_cases hj : j < l.length
        · rw [hs hj, if_neg (fun h => by have h1 := hub.1 h; have := hb hj h1.1; omega)]
        · exact he (by omega)
      rw [et]
      have hb2 := rBlanks_ok l j (by omega) hm
      have h5 := skip_le isBl l j j2
      generalize skip isBl l j = c at hb2 h5 ⊢
      have hst := stands_ok l 41 [] c (by omega) hm
      rw [pre_one] at hst
      repeat' (first | (first | refine ewp_seq ?_ | refine run_region hc (by simp; exact Ends.go) (by first | exact True.intro | omega | (simp; done) | (simp; omega) | (simp at *; omega)) ?_ | refine run_draw hc (by kernel_rfl) (by kernel_rfl) (by simp; exact Ends.go) (by first | exact True.intro | omega | (simp; done) | (simp; omega) | (simp at *; omega)) ?_ | refine ewp_scope ?_ | refine scopeQ_normal ?_ | refine scopeQ_ret ?_ | refine scopeQ_exit ?_ | refine ewp_skip ?_ | refine ewp_block ?_ | refine ewp_exit ?_ | refine ewp_label ?_ | refine thenQ_normal ?_ | refine thenQ_ret ?_ | refine thenQ_exit ?_ | refine blockQ_normal ?_ | refine blockQ_ret ?_ | refine blockQ_here ?_ | refine blockQ_there (by decide) ?_ | refine ewp_ret ?_ | refine opsW_nil ?_ | refine quietW_nil ?_ | (refine run_cond (by simp; exact Gives.mk) (fun hb => ?_) (fun hb => ?_) <;> (try simp at hb)) | fail) | (first | refine run_callW hc (by simp; exact Gives.mk) (by simp; exact Gives.mk) (by simp; exact Gives.mk) (by simp; exact Gives.mk) (by simp; exact Gives.mk) (fun _ => by first | exact hb2) (by simp) (by simp) ?_ | refine run_callQ hc (by simp; exact Gives.mk) (by simp; exact Gives.mk) (by simp; exact Gives.mk) (by simp; exact Gives.mk) (by simp; exact Gives.mk) (fun _ => by first | exact hb2) (by simp) (by simp) ?_ | refine run_ops hc (by simp; first | exact Ends.go | exact Ends.halt) (by decide) (by first | exact True.intro | omega | (simp; done) | (simp; omega) | (simp at *; omega)) ?_ | refine run_quiet hc (by simp; first | exact Ends.go | exact Ends.halt) (by decide) (by first | exact True.intro | omega | (simp; done) | (simp; omega) | (simp at *; omega)) ?_ | refine run_regionW hc (by simp; exact Ends.halt) (by first | exact True.intro | omega | (simp; done) | (simp; omega) | (simp at *; omega)) ?_ | refine run_drawN hc (by kernel_rfl) (by decide) (by kernel_rfl) (by simp; exact Ends.halt) (by first | exact True.intro | omega | (simp; done) | (simp; omega) | (simp at *; omega)) ?_ | fail))
      (apply run_drawAny 12 hc (by kernel_rfl) rfl; (focus (refine run_anyM 1 hc rfl (by kernel_rfl) rfl (by first | exact .inl rfl | exact .inr rfl) (by simp; exact Gives.mk) (by simp) (by simp; exact Gives.mk) ?_; refine run_anyP 2 hc rfl (by kernel_rfl) rfl (by simp; exact Gives.mk) (by first | exact True.intro | omega | (simp; done) | (simp; omega) | (simp at *; omega)) (by simp) (by simp) (by simp; exact Gives.mk) ?_; refine run_anyM 3 hc rfl (by kernel_rfl) rfl (by first | exact .inl rfl | exact .inr rfl) (by simp; exact Gives.mk) (by simp) (by simp; exact Gives.mk) ?_; refine run_anyM 4 hc rfl (by kernel_rfl) rfl (by first | exact .inl rfl | exact .inr rfl) (by simp; exact Gives.mk) (by simp) (by simp; exact Gives.mk) ?_; refine run_anyG 5 hc rfl (by kernel_rfl) (by simp; exact Gives.mk) (by simp; exact Gives.mk) (fun _ => (by first | exact True.intro | omega | (simp; done) | (simp; omega) | (simp at *; omega))) (by simp) (by simp) (by simp; exact Gives.mk) ?_; refine run_anyG 6 hc rfl (by kernel_rfl) (by simp; exact Gives.mk) (by simp; exact Gives.mk) (fun _ => (by first | exact True.intro | omega | (simp; done) | (simp; omega) | (simp at *; omega))) (by simp) (by simp) (by simp; exact Gives.mk) ?_; refine anyW_all [0, 7] (by kernel_rfl) rfl ?_; refine ⟨?_, ?_⟩; (focus (refine run_stepW hc rfl (by simp; exact Ends.go) (by first | exact True.intro | omega | (simp; done) | (simp; omega) | (simp at *; omega)) ?_; refine anyW_all [7] (by kernel_rfl) rfl ?_; (focus (refine run_stepC hc rfl rfl (by simp; exact Gives.mk) (by simp; exact Gives.mk) (by simp; exact Gives.mk) (by simp; exact Gives.mk) (by simp; exact Gives.mk) (fun _ => by first | exact hst) (by simp) (by simp) ?_; refine run_anyP 8 hc rfl (by kernel_rfl) rfl (by simp; exact Gives.mk) (by first | exact True.intro | omega | (simp; done) | (simp; omega) | (simp at *; omega)) (by simp) (by simp) (by simp; exact Gives.mk) ?_; refine anyW_all [9] (by kernel_rfl) rfl ?_; (focus (refine run_stepW hc rfl (by simp; exact Ends.go) (by first | exact True.intro | omega | (simp; done) | (simp; omega) | (simp at *; omega)) ?_; refine run_anyM 10 hc rfl (by kernel_rfl) rfl (by first | exact .inl rfl | exact .inr rfl) (by simp; exact Gives.mk) (by simp) (by simp; exact Gives.mk) ?_; refine run_anyM 11 hc rfl (by kernel_rfl) rfl (by first | exact .inl rfl | exact .inr rfl) (by simp; exact Gives.mk) (by simp) (by simp; exact Gives.mk) ?_; refine anyW_done (by kernel_rfl) ?_; exact run_keep [0, 4, 5, 6] [4] (by simp; try exact Gives.mk) (by simp; try exact Gives.mk))))))); (focus (refine run_stepC hc rfl rfl (by simp; exact Gives.mk) (by simp; exact Gives.mk) (by simp; exact Gives.mk) (by simp; exact Gives.mk) (by simp; exact Gives.mk) (fun _ => by first | exact hst) (by simp) (by simp) ?_; refine run_anyP 8 hc rfl (by kernel_rfl) rfl (by simp; exact Gives.mk) (by first | exact True.intro | omega | (simp; done) | (simp; omega) | (simp at *; omega)) (by simp) (by simp) (by simp; exact Gives.mk) ?_; refine anyW_all [0] (by kernel_rfl) rfl ?_; (focus (refine run_stepW hc rfl (by simp; exact Ends.go) (by first | exact True.intro | omega | (simp; done) | (simp; omega) | (simp at *; omega)) ?_; refine anyW_all [9] (by kernel_rfl) rfl ?_; (focus (refine run_stepW hc rfl (by simp; exact Ends.go) (by first | exact True.intro | omega | (simp; done) | (simp; omega) | (simp at *; omega)) ?_; refine run_anyM 10 hc rfl (by kernel_rfl) rfl (by first | exact .inl rfl | exact .inr rfl) (by simp; exact Gives.mk) (by simp) (by simp; exact Gives.mk) ?_; refine run_anyM 11 hc rfl (by kernel_rfl) rfl (by first | exact .inl rfl | exact .inr rfl) (by simp; exact Gives.mk) (by simp) (by simp; exact Gives.mk) ?_; refine anyW_done (by kernel_rfl) ?_; exact run_back [0, 4, 5, 6] [4] (by simp; exact Gives.mk) (by simp; exact Gives.mk) (by simp))))))))))
      repeat' (first | (first | refine ewp_seq ?_ | refine run_region hc (by simp; exact Ends.go) (by first | exact True.intro | omega | (simp; done) | (simp; omega) | (simp at *; omega)) ?_ | refine run_draw hc (by kernel_rfl) (by kernel_rfl) (by simp; exact Ends.go) (by first | exact True.intro | omega | (simp; done) | (simp; omega) | (simp at *; omega)) ?_ | refine ewp_scope ?_ | refine scopeQ_normal ?_ | refine scopeQ_ret ?_ | refine scopeQ_exit ?_ | refine ewp_skip ?_ | refine ewp_block ?_ | refine ewp_exit ?_ | refine ewp_label ?_ | refine thenQ_normal ?_ | refine thenQ_ret ?_ | refine thenQ_exit ?_ | refine blockQ_normal ?_ | refine blockQ_ret ?_ | refine blockQ_here ?_ | refine blockQ_there (by decide) ?_ | refine ewp_ret ?_ | refine opsW_nil ?_ | refine quietW_nil ?_ | (refine run_cond (by simp; exact Gives.mk) (fun hb => ?_) (fun hb => ?_) <;> (try simp at hb)) | fail))
      (refine run_leave hc (by simp; exact Gives.mk) ?_)
      simp
  · rw [if_pos rfl]
    have hpl := hql.2 rfl
    have hb2 := rBlanks_ok l p (by omega) hm
    have h5 := skip_le isBl l p hpl
    generalize skip isBl l p = c at hb2 h5 ⊢
    have hst := stands_ok l 41 [] c (by omega) hm
    rw [pre_one] at hst
    repeat' (first | (first | refine ewp_seq ?_ | refine run_region hc (by simp; exact Ends.go) (by first | exact True.intro | omega | (simp; done) | (simp; omega) | (simp at *; omega)) ?_ | refine run_draw hc (by kernel_rfl) (by kernel_rfl) (by simp; exact Ends.go) (by first | exact True.intro | omega | (simp; done) | (simp; omega) | (simp at *; omega)) ?_ | refine ewp_scope ?_ | refine scopeQ_normal ?_ | refine scopeQ_ret ?_ | refine scopeQ_exit ?_ | refine ewp_skip ?_ | refine ewp_block ?_ | refine ewp_exit ?_ | refine ewp_label ?_ | refine thenQ_normal ?_ | refine thenQ_ret ?_ | refine thenQ_exit ?_ | refine blockQ_normal ?_ | refine blockQ_ret ?_ | refine blockQ_here ?_ | refine blockQ_there (by decide) ?_ | refine ewp_ret ?_ | refine opsW_nil ?_ | refine quietW_nil ?_ | (refine run_cond (by simp; exact Gives.mk) (fun hb => ?_) (fun hb => ?_) <;> (try simp at hb)) | fail) | (first | refine run_callW hc (by simp; exact Gives.mk) (by simp; exact Gives.mk) (by simp; exact Gives.mk) (by simp; exact Gives.mk) (by simp; exact Gives.mk) (fun _ => by first | exact hwi | exact hwu | exact hbk | exact hq | exact hb2) (by simp) (by simp) ?_ | refine run_callQ hc (by simp; exact Gives.mk) (by simp; exact Gives.mk) (by simp; exact Gives.mk) (by simp; exact Gives.mk) (by simp; exact Gives.mk) (fun _ => by first | exact hwi | exact hwu | exact hbk | exact hq | exact hb2) (by simp) (by simp) ?_ | refine run_ops hc (by simp; first | exact Ends.go | exact Ends.halt) (by decide) (by first | exact True.intro | omega | (simp; done) | (simp; omega) | (simp at *; omega)) ?_ | refine run_quiet hc (by simp; first | exact Ends.go | exact Ends.halt) (by decide) (by first | exact True.intro | omega | (simp; done) | (simp; omega) | (simp at *; omega)) ?_ | refine run_regionW hc (by simp; exact Ends.halt) (by first | exact True.intro | omega | (simp; done) | (simp; omega) | (simp at *; omega)) ?_ | refine run_drawN hc (by kernel_rfl) (by decide) (by kernel_rfl) (by simp; exact Ends.halt) (by first | exact True.intro | omega | (simp; done) | (simp; omega) | (simp at *; omega)) ?_ | fail))
    all_goals try contradiction
    (apply run_drawAny 12 hc (by kernel_rfl) rfl; (focus (refine run_anyM 1 hc rfl (by kernel_rfl) rfl (by first | exact .inl rfl | exact .inr rfl) (by simp; exact Gives.mk) (by simp) (by simp; exact Gives.mk) ?_; refine run_anyP 2 hc rfl (by kernel_rfl) rfl (by simp; exact Gives.mk) (by first | exact True.intro | omega | (simp; done) | (simp; omega) | (simp at *; omega)) (by simp) (by simp) (by simp; exact Gives.mk) ?_; refine run_anyM 3 hc rfl (by kernel_rfl) rfl (by first | exact .inl rfl | exact .inr rfl) (by simp; exact Gives.mk) (by simp) (by simp; exact Gives.mk) ?_; refine run_anyM 4 hc rfl (by kernel_rfl) rfl (by first | exact .inl rfl | exact .inr rfl) (by simp; exact Gives.mk) (by simp) (by simp; exact Gives.mk) ?_; refine run_anyG 5 hc rfl (by kernel_rfl) (by simp; exact Gives.mk) (by simp; exact Gives.mk) (fun _ => (by first | exact True.intro | omega | (simp; done) | (simp; omega) | (simp at *; omega))) (by simp) (by simp) (by simp; exact Gives.mk) ?_; refine run_anyG 6 hc rfl (by kernel_rfl) (by simp; exact Gives.mk) (by simp; exact Gives.mk) (fun _ => (by first | exact True.intro | omega | (simp; done) | (simp; omega) | (simp at *; omega))) (by simp) (by simp) (by simp; exact Gives.mk) ?_; refine anyW_all [0, 7] (by kernel_rfl) rfl ?_; refine ⟨?_, ?_⟩; (focus (refine run_stepW hc rfl (by simp; exact Ends.go) (by first | exact True.intro | omega | (simp; done) | (simp; omega) | (simp at *; omega)) ?_; refine anyW_all [7] (by kernel_rfl) rfl ?_; (focus (refine run_stepC hc rfl rfl (by simp; exact Gives.mk) (by simp; exact Gives.mk) (by simp; exact Gives.mk) (by simp; exact Gives.mk) (by simp; exact Gives.mk) (fun _ => by first | exact hst) (by simp) (by simp) ?_; refine run_anyP 8 hc rfl (by kernel_rfl) rfl (by simp; exact Gives.mk) (by first | exact True.intro | omega | (simp; done) | (simp; omega) | (simp at *; omega)) (by simp) (by simp) (by simp; exact Gives.mk) ?_; refine anyW_all [9] (by kernel_rfl) rfl ?_; (focus (refine run_stepW hc rfl (by simp; exact Ends.go) (by first | exact True.intro | omega | (simp; done) | (simp; omega) | (simp at *; omega)) ?_; refine run_anyM 10 hc rfl (by kernel_rfl) rfl (by first | exact .inl rfl | exact .inr rfl) (by simp; exact Gives.mk) (by simp) (by simp; exact Gives.mk) ?_; refine run_anyM 11 hc rfl (by kernel_rfl) rfl (by first | exact .inl rfl | exact .inr rfl) (by simp; exact Gives.mk) (by simp) (by simp; exact Gives.mk) ?_; refine anyW_done (by kernel_rfl) ?_; exact run_keep [0, 4, 5, 6] [4] (by simp; try exact Gives.mk) (by simp; try exact Gives.mk))))))); (focus (refine run_stepC hc rfl rfl (by simp; exact Gives.mk) (by simp; exact Gives.mk) (by simp; exact Gives.mk) (by simp; exact Gives.mk) (by simp; exact Gives.mk) (fun _ => by first | exact hst) (by simp) (by simp) ?_; refine run_anyP 8 hc rfl (by kernel_rfl) rfl (by simp; exact Gives.mk) (by first | exact True.intro | omega | (simp; done) | (simp; omega) | (simp at *; omega)) (by simp) (by simp) (by simp; exact Gives.mk) ?_; refine anyW_all [0] (by kernel_rfl) rfl ?_; (focus (refine run_stepW hc rfl (by simp; exact Ends.go) (by first | exact True.intro | omega | (simp; done) | (simp; omega) | (simp at *; omega)) ?_; refine anyW_all [9] (by kernel_rfl) rfl ?_; (focus (refine run_stepW hc rfl (by simp; exact Ends.go) (by first | exact True.intro | omega | (simp; done) | (simp; omega) | (simp at *; omega)) ?_; refine run_anyM 10 hc rfl (by kernel_rfl) rfl (by first | exact .inl rfl | exact .inr rfl) (by simp; exact Gives.mk) (by simp) (by simp; exact Gives.mk) ?_; refine run_anyM 11 hc rfl (by kernel_rfl) rfl (by first | exact .inl rfl | exact .inr rfl) (by simp; exact Gives.mk) (by simp) (by simp; exact Gives.mk) ?_; refine anyW_done (by kernel_rfl) ?_; exact run_back [0, 4, 5, 6] [4] (by simp; exact Gives.mk) (by simp; exact Gives.mk) (by simp))))))))))
    repeat' (first | (first | refine ewp_seq ?_ | refine run_region hc (by simp; exact Ends.go) (by first | exact True.intro | omega | (simp; done) | (simp; omega) | (simp at *; omega)) ?_ | refine run_draw hc (by kernel_rfl) (by kernel_rfl) (by simp; exact Ends.go) (by first | exact True.intro | omega | (simp; done) | (simp; omega) | (simp at *; omega)) ?_ | refine ewp_scope ?_ | refine scopeQ_normal ?_ | refine scopeQ_ret ?_ | refine scopeQ_exit ?_ | refine ewp_skip ?_ | refine ewp_block ?_ | refine ewp_exit ?_ | refine ewp_label ?_ | refine thenQ_normal ?_ | refine thenQ_ret ?_ | refine thenQ_exit ?_ | refine blockQ_normal ?_ | refine blockQ_ret ?_ | refine blockQ_here ?_ | refine blockQ_there (by decide) ?_ | refine ewp_ret ?_ | refine opsW_nil ?_ | refine quietW_nil ?_ | (refine run_cond (by simp; exact Gives.mk) (fun hb => ?_) (fun hb => ?_) <;> (try simp at hb)) | fail))
    (refine run_leave hc (by simp; exact Gives.mk) ?_)
    simp
end Go.Proofs.YtgebkjngnfdeiaaDoor
