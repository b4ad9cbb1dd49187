/-
  THE RULES AS THEY ARE USED: over a program at hand; and what 'simp' reckons.
-/
import Derived.Test.YtpmfmjgnhdfakaaGreatDoorLwSeal
set_option linter.unusedSimpArgs false
set_option linter.unusedVariables false
namespace Go.Lw
open Go.RowKit

/-- So is it reckoned. -/
def Gives {α : Type} (x : Option α) (y : α) : Prop := x = some y
theorem Gives.mk {α : Type} {y : α} : Gives (some y) y := rfl

structure CtxIs (C : Ctx) (P : Program) (nt : Nat) : Prop where
  prog : C.P = P
  nt : C.nt = nt
  ok : CtxOk C

section
variable {C : Ctx} {P : Program} {nt : Nat} {st st' : St} {p : Prop} {Q : Exit → St → Prop} {K : St → Prop} {o : Oper} {rest l l' : List Oper} {ops : Array Oper} {id : Nat}

theorem run_region (hc : CtxIs C P nt) (he : Ends (runL P nt l.toArray false l (.go st True)) st' p []) (hp : p) (hk : Q .normal st') : ewp C (.region id l.toArray false) Q st := by
  obtain ⟨rfl, rfl, hok⟩ := hc
  exact ewp_region (opsW_eval hok rfl he hp (opsW_nil hk))
theorem run_regionW (hc : CtxIs C P nt) (he : Ends (runL P nt l.toArray false l (.go st True)) st' p l') (hp : p) (hk : opsW C l.toArray l' st' fun st' => Q .normal st') : ewp C (.region id l.toArray false) Q st := by
  obtain ⟨rfl, rfl, hok⟩ := hc
  exact ewp_region (opsW_eval hok rfl he hp hk)
theorem run_ops (hc : CtxIs C P nt) (he : Ends (runL P nt ops false l (.go st True)) st' p l') (_hlt : l'.length < l.length) (hp : p) (hk : opsW C ops l' st' K) : opsW C ops l st K := by
  obtain ⟨rfl, rfl, hok⟩ := hc
  exact opsW_eval hok rfl he hp hk
theorem run_callW (hc : CtxIs C P nt) {x : Operand} {f : FuncId} {args : Array Operand} {ts : Array TypeId} {d : Option Tmp} {ty : TypeId} {pos : String} {af : Array Edge} {gd : Option (Nat × Bool)} {y : V} {xs caps : List V} {ds : List D} {b g : Bool} {res : D}
    (hw : Gives (gE ops { dst := d, op := .call { callee := .value x, args := args, argTypes := ts }, type := ty, pos := pos, after := af, guard := gd } st) g)
    (hy : Gives (ev g st x) y) (hx : Gives (calleeE (some y)) (f, caps)) (hl : Gives (evL g st args.toList) xs) (ha : Gives (asDL st (xs ++ caps)) (ds, b)) (hf : g = true → FnOk P f ds res) (hb : (!b || flat res) = true) (hd : dstB nt d = true) (hk : opsW C ops rest (st.put d (if gd.isNone then .d res else .when g (.d res))) K) :
    opsW C ops ({ dst := d, op := .call { callee := .value x, args := args, argTypes := ts }, type := ty, pos := pos, after := af, guard := gd } :: rest) st K := by
  obtain ⟨rfl, rfl, hok⟩ := hc
  exact opsW_call hok hw rfl hy hx hl ha hf (by cases b <;> simp_all) hd hk
theorem run_draw (hc : CtxIs C P nt) (hm : P.follows .mixedOrders = true) (hB : Region.lexB .any l.toArray = true) (he : Ends (runL P nt l.toArray true l (.go st True)) st' p []) (hp : p) (hk : Q .normal st') : ewp C (.region id l.toArray true) Q st := by
  obtain ⟨rfl, rfl, hok⟩ := hc
  exact ewp_draw hok hm hB (quietW_eval rfl he hp (quietW_nil hk))
theorem run_drawW (hc : CtxIs C P nt) (hm : P.follows .mixedOrders = true) (hB : Region.lexB .any l.toArray = true) (he : Ends (runL P nt l.toArray true l (.go st True)) st' p l') (hp : p) (hk : quietW C l.toArray l' st' fun st' => Q .normal st') : ewp C (.region id l.toArray true) Q st := by
  obtain ⟨rfl, rfl, hok⟩ := hc
  exact ewp_draw hok hm hB (quietW_eval rfl he hp hk)
theorem run_quiet (hc : CtxIs C P nt) (he : Ends (runL P nt ops true l (.go st True)) st' p l') (_hlt : l'.length < l.length) (hp : p) (hk : quietW C ops l' st' K) : quietW C ops l st K := by
  obtain ⟨rfl, rfl, hok⟩ := hc
  exact quietW_eval rfl he hp hk
theorem run_callQ (hc : CtxIs C P nt) {x : Operand} {f : FuncId} {args : Array Operand} {ts : Array TypeId} {d : Option Tmp} {ty : TypeId} {pos : String} {af : Array Edge} {gd : Option (Nat × Bool)} {y : V} {xs caps : List V} {ds : List D} {b g : Bool} {res : D}
    (hw : Gives (gE ops { dst := d, op := .call { callee := .value x, args := args, argTypes := ts }, type := ty, pos := pos, after := af, guard := gd } st) g)
    (hy : Gives (ev g st x) y) (hx : Gives (calleeE (some y)) (f, caps)) (hl : Gives (evL g st args.toList) xs) (ha : Gives (asDL st (xs ++ caps)) (ds, b)) (hf : g = true → FnOk P f ds res) (hb : flat res = true) (hd : dstB nt d = true) (hk : quietW C ops rest (st.put d (if gd.isNone then .d res else .when g (.d res))) K) :
    quietW C ops ({ dst := d, op := .call { callee := .value x, args := args, argTypes := ts }, type := ty, pos := pos, after := af, guard := gd } :: rest) st K := by
  obtain ⟨rfl, rfl, hok⟩ := hc
  exact quietW_call hok hw rfl hy hx hl ha hf hb hd hk

theorem run_callM (σ : List (Nat × Nat)) {f : FuncId} {cargs : List V} {cobjs cobjs' : List (Nat × O)} {rs : V} (hf : FnMem P f cargs cobjs rs cobjs') (hc : CtxIs C P nt) {x : Operand} {args : Array Operand} {ts : Array TypeId} {d : Option Tmp} {ty : TypeId} {pos : String} {af : Array Edge} {gd : Option (Nat × Bool)} {y : V} {xs caps xc : List V} {ps ps2 : List (Nat × O)} {s2 : St} {r2 : V}
    (hw : Gives (gE ops { dst := d, op := .call { callee := .value x, args := args, argTypes := ts }, type := ty, pos := pos, after := af, guard := gd } st) true)
    (hy : Gives (ev true st x) y) (hx : Gives (calleeE (some y)) (f, caps)) (hl : Gives (evL true st args.toList) xs) (hxc : Gives (some (xs ++ caps)) xc) (hxs : renL σ cargs = xc) (hps : Gives (some (newObjs σ cobjs)) ps) (hpk : Gives (pickL st.objs (ps.map (·.1))) ps2) (hu : ps = ps2) (hσ : sigB σ cobjs cobjs' rs = true) (hd : dstB nt d = true)
    (h2 : Gives (some (afterM σ cobjs' st)) s2) (h3 : Gives (some (renV σ rs)) r2) (hk : opsW C ops rest (s2.put d r2) K) :
    opsW C ops ({ dst := d, op := .call { callee := .value x, args := args, argTypes := ts }, type := ty, pos := pos, after := af, guard := gd } :: rest) st K := by
  obtain ⟨rfl, rfl, hok⟩ := hc
  cases h2; cases h3; cases hps; cases hxc
  subst hu
  refine opsW_callM σ hok hw rfl hy hx hl hf hxs ?_ hσ hd hk
  rw [← show _ = some (newObjs σ cobjs) from hpk]
  simp only [newObjs, List.map_map]
  rfl
theorem run_isNil (hc : CtxIs C P nt) {t ty : TypeId} {y : Operand} {n : Nat} {g : Nat → List D} {r0 : TypeId × Nat} {d : Option Tmp} {ty' : TypeId} {pos : String} {af : Array Edge} {gd : Option (Nat × Bool)}
    (hw : Gives (gE ops { dst := d, op := .binOp .eql t y (.const (.slice none 0 0)) ty, type := ty', pos := pos, after := af, guard := gd } st) true) (ht : Gives (eElem P t) r0) (hy : Gives (ev true st y) (.d (.sl n g))) (hd : dstB nt d = true)
    (hk : ∀ b : Bool, (b = true → n = 0) → opsW C ops rest (st.put d (.d (.lit (.bool b)))) K) : opsW C ops ({ dst := d, op := .binOp .eql t y (.const (.slice none 0 0)) ty, type := ty', pos := pos, after := af, guard := gd } :: rest) st K := by
  obtain ⟨rfl, rfl, hok⟩ := hc
  exact opsW_isNil hw rfl ht hy hd hk
theorem run_seal (id : Nat) (hc : CtxIs C P nt) {st2 : St} {q : Prop} {c : Code} (he : Gives (sealE id st) (st2, q)) (hp : q) (hk : ewp C c Q st2) : ewp C c Q st := by
  obtain ⟨rfl, rfl, hok⟩ := hc
  exact ewp_le (seal_le hok he hp) hk
theorem le_seal (id : Nat) (hc : CtxIs C P nt) {st2 s3 : St} {q : Prop} (he : Gives (sealE id st) (st2, q)) (hp : q) (hk : Le C s3 st2) : Le C s3 st := by
  obtain ⟨rfl, rfl, hok⟩ := hc
  exact hk.trans (seal_le hok he hp)
theorem le_births (bs : List (Nat × Option Nat × Nat × Nat × List D)) {st2 s3 : St} (he : Gives (births bs st) st2) (hk : Le C s3 st2) : Le C s3 st := hk.trans (Le.births he)
theorem le_end {s3 : St} (he : s3 = st) : Le C s3 st := by subst he; exact Le.refl _ _
theorem run_leaveM {rs : List ResultVar} {res : V} {objs' : List (Nat × O)} {xs : List V} {st1 : St} (ids : List Nat) {os : List (Nat × O)} (hc : CtxIs C P nt) (hle : Le C st1 st) (he : Gives (resAllV P st1 rs) xs) (ho : Gives (pickL st1.objs ids) os) (hr : mkRes xs = res) (hos : os = objs') : LeavesM C rs res objs' .ret st := by
  obtain ⟨rfl, rfl, hok⟩ := hc
  subst hos
  exact ⟨st1, hle, ⟨xs, he, hr⟩, fun i o hl => pickL_spec ho i o hl⟩
theorem fnMem {f : FuncId} {fn : Func} {c : Code} {args : List V} {res : V} {objs objs' : List (Nat × O)} (hf : P.funcs[f]? = some fn) (hb : fn.body = some c) (hcall : callB P f = true) (hnt : fn.ntmps = nt) (rs : List ResultVar) (hrs : fn.results = rs.toArray) (hn : args.length ≤ nt ∧ nt ≤ 50000 ∧ objs.all (fun p => decide (50000 ≤ p.1)) = true)
    (hbody : ∀ C : Ctx, CtxIs C P nt → ewp C c (LeavesM C rs res objs') ⟨slotsV 0 args, objs⟩) : FnMem P f args objs res objs' :=
  fnMem_of hf hb hcall (by omega) (by omega) hn.2.2 rs hrs fun C h1 h2 h3 => hbody C ⟨h1, h2.trans hnt, h3⟩
theorem run_cond {c : Operand} {x y : Code} {t : Bool} (hc : Gives (ev true st c) (.d (.lit (.bool t)))) (ht : t = true → ewp C x Q st) (hf : t = false → ewp C y Q st) : ewp C (.cond c x y) Q st := ewp_cond hc ht hf
theorem run_keep (is ids : List Nat) {sl : List (Nat × V)} {os : List (Nat × O)} (h1 : Gives (pickL st.slots is) sl) (h2 : Gives (pickL st.objs ids) os) : Le C ⟨sl, os⟩ st := Le.keep is ids h1 h2
theorem run_keepB (bs : List (Nat × Option Nat × Nat × Nat × List D)) (is ids : List Nat) {st1 : St} {sl : List (Nat × V)} {os : List (Nat × O)} (h0 : Gives (births bs st) st1) (h1 : Gives (pickL st1.slots is) sl) (h2 : Gives (pickL st1.objs ids) os) : Le C ⟨sl, os⟩ st := (Le.keep is ids h1 h2).trans (Le.births h0)
theorem run_back (is ids : List Nat) {s2 : St} {sl : List (Nat × V)} {os : List (Nat × O)} (h1 : Gives (pickL st.slots is) sl) (h2 : Gives (pickL st.objs ids) os) (he : s2 = ⟨sl, os⟩) : Le C s2 st := he ▸ Le.keep is ids h1 h2
theorem fnOk {f : FuncId} {fn : Func} {c : Code} {args : List D} {res : D} (hf : P.funcs[f]? = some fn) (hb : fn.body = some c) (hcall : callB P f = true) (hnt : fn.ntmps = nt) (rs : List ResultVar) (hrs : fn.results = rs.toArray) (hn : args.length ≤ nt ∧ nt ≤ 50000)
    (hbody : ∀ C : Ctx, CtxIs C P nt → ewp C c (Leaves C rs res) ⟨slots0 0 args, []⟩) : FnOk P f args res :=
  fnOk_of hf hb hcall (by omega) (by omega) rs hrs fun C h1 h2 h3 => hbody C ⟨h1, h2.trans hnt, h3⟩
theorem run_leave {rs : List ResultVar} {res : D} {ds : List D} (hc : CtxIs C P nt) (he : Gives (resAll P st rs) ds) (hr : resD ds = res) : Leaves C rs res .ret st := by
  obtain ⟨rfl, rfl, hok⟩ := hc
  exact leaves_ret (by rw [show resAll C.P st rs = some ds from he, ← hr]; rfl)
end

/-! THE RULES AS THE WORDS OF THE WALK USE THEM: what is reckoned is left out. -/
section
variable {C : Ctx} {P : Program} {nt : Nat} {st st' : St} {p : Prop} {Q : Exit → St → Prop} {K : St → Prop} {o : Oper} {rest l l' : List Oper} {ops : Array Oper} {id : Nat}
theorem Zr (hc : CtxIs C P nt) (he : Ends (runL P nt l.toArray false l (.go st True)) st' p [] := by simp; exact Ends.go) (hp : p := by first | exact True.intro | omega | assumption | (simp; done) | (simp; omega) | (simp at *; omega)) (hk : Q .normal st') : ewp C (.region id l.toArray false) Q st := run_region hc he hp hk
theorem Zd (hc : CtxIs C P nt) (hm : P.follows .mixedOrders = true := by kernel_rfl) (hB : Region.lexB .any l.toArray = true := by kernel_rfl) (he : Ends (runL P nt l.toArray true l (.go st True)) st' p [] := by simp; exact Ends.go) (hp : p := by first | exact True.intro | omega | assumption | (simp; done) | (simp; omega) | (simp at *; omega)) (hk : Q .normal st') : ewp C (.region id l.toArray true) Q st := run_draw hc hm hB he hp hk
theorem Zw (hc : CtxIs C P nt) {x : Operand} {f : FuncId} {args : Array Operand} {ts : Array TypeId} {d : Option Tmp} {ty : TypeId} {pos : String} {af : Array Edge} {gd : Option (Nat × Bool)} {y : V} {xs caps : List V} {ds : List D} {b g : Bool} {res : D}
    (hw : Gives (gE ops { dst := d, op := .call { callee := .value x, args := args, argTypes := ts }, type := ty, pos := pos, after := af, guard := gd } st) g := by simp; exact Gives.mk)
    (hy : Gives (ev g st x) y := by simp; exact Gives.mk) (hx : Gives (calleeE (some y)) (f, caps) := by simp; exact Gives.mk) (hl : Gives (evL g st args.toList) xs := by simp; exact Gives.mk) (ha : Gives (asDL st (xs ++ caps)) (ds, b) := by simp; exact Gives.mk) (hf : FnOk P f ds res) (hb : (!b || flat res) = true := by simp) (hd : dstB nt d = true := by simp) (hk : opsW C ops rest (st.put d (if gd.isNone then .d res else .when g (.d res))) K) :
    opsW C ops ({ dst := d, op := .call { callee := .value x, args := args, argTypes := ts }, type := ty, pos := pos, after := af, guard := gd } :: rest) st K := run_callW hc hw hy hx hl ha (fun _ => hf) hb hd hk
theorem Zq (hc : CtxIs C P nt) {x : Operand} {f : FuncId} {args : Array Operand} {ts : Array TypeId} {d : Option Tmp} {ty : TypeId} {pos : String} {af : Array Edge} {gd : Option (Nat × Bool)} {y : V} {xs caps : List V} {ds : List D} {b g : Bool} {res : D}
    (hw : Gives (gE ops { dst := d, op := .call { callee := .value x, args := args, argTypes := ts }, type := ty, pos := pos, after := af, guard := gd } st) g := by simp; exact Gives.mk)
    (hy : Gives (ev g st x) y := by simp; exact Gives.mk) (hx : Gives (calleeE (some y)) (f, caps) := by simp; exact Gives.mk) (hl : Gives (evL g st args.toList) xs := by simp; exact Gives.mk) (ha : Gives (asDL st (xs ++ caps)) (ds, b) := by simp; exact Gives.mk) (hf : FnOk P f ds res) (hb : flat res = true := by simp) (hd : dstB nt d = true := by simp) (hk : quietW C ops rest (st.put d (if gd.isNone then .d res else .when g (.d res))) K) :
    quietW C ops ({ dst := d, op := .call { callee := .value x, args := args, argTypes := ts }, type := ty, pos := pos, after := af, guard := gd } :: rest) st K := run_callQ hc hw hy hx hl ha (fun _ => hf) hb hd hk
theorem Zo (hc : CtxIs C P nt) (he : Ends (runL P nt ops false l (.go st True)) st' p l' := by simp; first | exact Ends.go | exact Ends.halt) (hlt : l'.length < l.length := by decide) (hp : p := by first | exact True.intro | omega | assumption | (simp; done) | (simp; omega) | (simp at *; omega)) (hk : opsW C ops l' st' K) : opsW C ops l st K := run_ops hc he hlt hp hk
theorem Zu (hc : CtxIs C P nt) (he : Ends (runL P nt ops true l (.go st True)) st' p l' := by simp; first | exact Ends.go | exact Ends.halt) (hlt : l'.length < l.length := by decide) (hp : p := by first | exact True.intro | omega | assumption | (simp; done) | (simp; omega) | (simp at *; omega)) (hk : quietW C ops l' st' K) : quietW C ops l st K := run_quiet hc he hlt hp hk
theorem Ze (hc : CtxIs C P nt) (he : Ends (runL P nt l.toArray false l (.go st True)) st' p l' := by simp; exact Ends.halt) (hp : p := by first | exact True.intro | omega | assumption | (simp; done) | (simp; omega) | (simp at *; omega)) (hk : opsW C l.toArray l' st' fun st' => Q .normal st') : ewp C (.region id l.toArray false) Q st := run_regionW hc he hp hk
theorem Zf (hc : CtxIs C P nt) (hm : P.follows .mixedOrders = true := by kernel_rfl) (hB : Region.lexB .any l.toArray = true := by kernel_rfl) (he : Ends (runL P nt l.toArray true l (.go st True)) st' p l' := by simp; exact Ends.halt) (hp : p := by first | exact True.intro | omega | assumption | (simp; done) | (simp; omega) | (simp at *; omega)) (hk : quietW C l.toArray l' st' fun st' => Q .normal st') : ewp C (.region id l.toArray true) Q st := run_drawW hc hm hB he hp hk
theorem Zl {rs : List ResultVar} {res : D} {ds : List D} (hc : CtxIs C P nt) (he : Gives (resAll P st rs) ds := by simp; exact Gives.mk) (hr : resD ds = res) : Leaves C rs res .ret st := run_leave hc he hr
theorem Zc {c : Operand} {x y : Code} {t : Bool} (hc : Gives (ev true st c) (.d (.lit (.bool t))) := by simp; exact Gives.mk) (ht : t = true → ewp C x Q st) (hf : t = false → ewp C y Q st) : ewp C (.cond c x y) Q st := run_cond hc ht hf
theorem Ya {x y : Code} (h : ewp C x (thenQ (ewp C y Q) Q) st) : ewp C (.seq x y) Q st := ewp_seq h
theorem Yb {c : Code} (h : ewp C c (scopeQ Q) st) : ewp C (.scope c) Q st := ewp_scope h
theorem Yc (h : Q .normal st) : scopeQ Q .normal st := h
theorem Yd (h : Q .ret st) : scopeQ Q .ret st := h
theorem Ye {j : Nat} (h : Q (.exit j) st) : scopeQ Q (.exit j) st := h
theorem Yf (h : Q .normal st) : ewp C .skip Q st := ewp_skip h
theorem Yg {c : Code} (h : ewp C c (blockQ id Q) st) : ewp C (.block id c) Q st := ewp_block h
theorem Yh (h : Q (.exit id) st) : ewp C (.exit id) Q st := ewp_exit h
theorem Yi {j : Nat} (h : Q .normal st) : ewp C (.label j) Q st := ewp_label h
theorem Yj {next : St → Prop} (h : next st) : thenQ next Q .normal st := h
theorem Yk {next : St → Prop} (h : Q .ret st) : thenQ next Q .ret st := h
theorem Yl {next : St → Prop} {j : Nat} (h : Q (.exit j) st) : thenQ next Q (.exit j) st := h
theorem Ym (h : Q .normal st) : blockQ id Q .normal st := h
theorem Yn (h : Q .ret st) : blockQ id Q .ret st := h
theorem Yo (h : Q .normal st) : blockQ id Q (.exit id) st := blockQ_here h
theorem Yp {j : Nat} (hj : j ≠ id := by decide) (h : Q (.exit j) st) : blockQ id Q (.exit j) st := blockQ_there hj h
theorem Yq (h : Q .ret st) : ewp C .ret Q st := ewp_ret h
theorem Yr (h : K st) : opsW C ops [] st K := opsW_nil h
theorem Ys (h : K st) : quietW C ops [] st K := quietW_nil h
end

theorem res_bool {a b : Bool} (h : a = b) : resD [D.lit (.bool a)] = D.lit (.bool b) := by rw [h]; rfl
theorem rowsOk_range {sz m : Nat} {f : Nat → List D} : rowsOk sz ((List.range m).map f) ↔ ∀ i, i < m → (f i).length = sz ∧ (f i).all (fun d => oneV (.d d)) = true := by
  simp [rowsOk]
theorem rowsOk_map {α : Type} {sz : Nat} {l : List α} {f : α → List D} : rowsOk sz (l.map f) ↔ ∀ x, x ∈ l → (f x).length = sz ∧ (f x).all (fun d => oneV (.d d)) = true := by
  simp [rowsOk]
theorem rowsOk_cons {sz : Nat} {x : List D} {l : List (List D)} : rowsOk sz (x :: l) ↔ (x.length = sz ∧ x.all (fun d => oneV (.d d)) = true) ∧ rowsOk sz l := by
  simp [rowsOk]
theorem rowsOk_nil {sz : Nat} : rowsOk sz [] ↔ True := by simp [rowsOk]
theorem rowsOk_append {sz : Nat} {l m : List (List D)} : rowsOk sz (l ++ m) ↔ rowsOk sz l ∧ rowsOk sz m := by
  simp only [rowsOk, List.mem_append]
  exact ⟨fun h => ⟨fun x hx => h x (.inl hx), fun x hx => h x (.inr hx)⟩, fun h x hx => hx.elim (h.1 x) (h.2 x)⟩
theorem map_range_getD {α β : Type} (l : List α) (d : α) (f : α → β) : (List.range l.length).map (fun i => f (l[i]?.getD d)) = l.map f := by
  apply List.ext_getElem?
  intro i
  by_cases hi : i < l.length
  · simp [hi]
  · simp [hi]
theorem take_len_map {α β : Type} (l : List α) (f : α → β) : List.take l.length (l.map f) = l.map f := List.take_of_length_le (by simp)
theorem take_len_map1 {α β : Type} (l : List α) (f : α → β) (x : β) : List.take (l.length + 1) (l.map f ++ [x]) = l.map f ++ [x] := List.take_of_length_le (by simp)
attribute [simp] take_len_map take_len_map1
attribute [simp] rowsOk_range rowsOk_map rowsOk_cons rowsOk_nil rowsOk_append
attribute [simp] oneV cellsV renV renL renO ren unren newObjs afterM keepObjs movers hushMV hushMO resOneV resAllV mkTup mkRes slotsV mkClo subV subV.subL okV okV.okL subO okO okSlots okObjs subObjs subSlots leafOf sealE strike sigB idsV idsV.idsL idsO births birthS birthC srcE hushV hushO hushS hushL runL callOp rowsV fillV roBuild litsV step1 stepG stepR stepM stepM2 stepP memE memE0 memE.orX memX dstX roLookup unw gE whenE ro ev look place dstB litL eqVals eqCell roBin roUn roPick roField roFieldAddr roLoad roIndexAddr roIndex roSlice roSlice3 roCap roLen roMinMax roConv roConvB orR roNil allR mkFn eSame eArith eShift eText eTruth St.put bnd loadV mkAgg allD freshB says saysL O.says cellsV oneV asLeaf asD asDL calleeE evL resOne resAll resD pickL slots0 flat flatL Value.oneCell'
theorem inR_i64 (n : Int) : inR .i64 n ↔ -9223372036854775808 ≤ n ∧ n ≤ 9223372036854775807 := by simp [inR, IntKind.min, IntKind.max, IntKind.signed, IntKind.bits]
theorem inR_u8 (n : Int) : inR .u8 n ↔ 0 ≤ n ∧ n ≤ 255 := by simp [inR, IntKind.min, IntKind.max, IntKind.signed, IntKind.bits]
theorem inR_i32 (n : Int) : inR .i32 n ↔ -2147483648 ≤ n ∧ n ≤ 2147483647 := by simp [inR, IntKind.min, IntKind.max, IntKind.signed, IntKind.bits]
attribute [simp] inR_i64 inR_u8 inR_i32
theorem toNat_sub_1 (a : Nat) : ((a : Int) - 1).toNat = a - 1 := by omega
theorem toNat_add_1 (a : Nat) : ((a : Int) + 1).toNat = a + 1 := by omega
theorem toNat_sub_2 (a : Nat) : ((a : Int) - 2).toNat = a - 2 := by omega
theorem toNat_add_2 (a : Nat) : ((a : Int) + 2).toNat = a + 2 := by omega
theorem toNat_sub_3 (a : Nat) : ((a : Int) - 3).toNat = a - 3 := by omega
theorem toNat_add_3 (a : Nat) : ((a : Int) + 3).toNat = a + 3 := by omega
theorem toNat_sub_4 (a : Nat) : ((a : Int) - 4).toNat = a - 4 := by omega
theorem toNat_add_4 (a : Nat) : ((a : Int) + 4).toNat = a + 4 := by omega
theorem toNat_sub_5 (a : Nat) : ((a : Int) - 5).toNat = a - 5 := by omega
theorem toNat_add_5 (a : Nat) : ((a : Int) + 5).toNat = a + 5 := by omega
theorem toNat_sub_6 (a : Nat) : ((a : Int) - 6).toNat = a - 6 := by omega
theorem toNat_add_6 (a : Nat) : ((a : Int) + 6).toNat = a + 6 := by omega
theorem toNat_sub_7 (a : Nat) : ((a : Int) - 7).toNat = a - 7 := by omega
theorem toNat_add_7 (a : Nat) : ((a : Int) + 7).toNat = a + 7 := by omega
theorem toNat_sub_8 (a : Nat) : ((a : Int) - 8).toNat = a - 8 := by omega
theorem toNat_add_8 (a : Nat) : ((a : Int) + 8).toNat = a + 8 := by omega
theorem toNat_sub_9 (a : Nat) : ((a : Int) - 9).toNat = a - 9 := by omega
theorem toNat_add_9 (a : Nat) : ((a : Int) + 9).toNat = a + 9 := by omega
theorem toNat_addn (a b : Nat) : ((a : Int) + (b : Int)).toNat = a + b := by omega
theorem toNat_subn (a b : Nat) : ((a : Int) - (b : Int)).toNat = a - b := by omega
attribute [simp] toNat_sub_1 toNat_add_1 toNat_sub_2 toNat_add_2 toNat_sub_3 toNat_add_3 toNat_sub_4 toNat_add_4 toNat_sub_5 toNat_add_5 toNat_sub_6 toNat_add_6 toNat_sub_7 toNat_add_7 toNat_sub_8 toNat_add_8 toNat_sub_9 toNat_add_9 toNat_addn toNat_subn
/-! Strings, by their bytes. -/
@[simp] theorem bs_size (l : List UInt8) : (bs l).size = l.length := rfl
@[simp] theorem bs_data (l : List UInt8) : (bs l).data.toList = l := rfl
@[simp] theorem bs_toList (l : List UInt8) : (bs l).toList = l := by rw [ByteArray.toList_eq]; rfl
@[simp] theorem bs_append (l m : List UInt8) : bs l ++ bs m = bs (l ++ m) := by
  apply ByteArray.ext
  rw [ByteArray.data_append]
  simp [bs]
@[simp] theorem bs_extract (l : List UInt8) (i j : Nat) : (bs l).extract i j = bs ((l.take j).drop i) := by
  apply ByteArray.ext
  rw [ByteArray.data_extract]
  apply Array.ext'
  rw [Array.toList_extract]
  simp [bs, List.extract, List.drop_take]
@[simp] theorem mk_bs (l : List UInt8) : ByteArray.mk (List.toArray l) = bs l := rfl
@[simp] theorem empty_bs : ByteArray.empty = bs [] := rfl
@[simp] theorem byteAt_bs (l : List UInt8) (i : Nat) : byteAt (bs l) i = l[i]?.getD 0 := by simp [byteAt]
@[simp] theorem bs_inj (l m : List UInt8) : bs l = bs m ↔ l = m := by
  constructor
  · intro h; have := congrArg (fun b : ByteArray => b.data.toList) h; simpa using this
  · intro h; rw [h]
@[simp] theorem getD_byteRow0 (o : Option UInt8) : (o.map byteRow).getD [.lit (.int .u8 0)] = [.lit (.int .u8 ((o.getD 0).toNat : Int))] := by cases o <;> rfl
@[simp] theorem oneByte_lit (b : UInt8) : oneByte [.lit (.int .u8 (b.toNat : Int))] = b := oneByte_row b
@[simp] theorem oneByte_map (l : List UInt8) : (l.map byteRow).map oneByte = l := by simp [Function.comp_def, oneByte_row]
@[simp] theorem isRow_lit (b : UInt8) : isRow [.lit (.int .u8 (b.toNat : Int))] ↔ True := by simp; exact ⟨b, rfl⟩
attribute [simp] byteRow
/-- Data that reads alike. -/
inductive Sim : D → D → Prop where
  | refl (d : D) : Sim d d
  | sl (n : Nat) (f g : Nat → List D) (h : ∀ i, i < n → f i = g i) : Sim (.sl n f) (.sl n g)
theorem Sim.rd {w : World} {ok : Nat → Prop} {d e : D} {v : Value} (s : Sim d e) (h : RdD w ok d v) : RdD w ok e v := by
  cases s with
  | refl _ => exact h
  | sl n f g hs =>
    cases h with
    | sl _ _ A cap size b off q hc hm hA hl hg hd =>
      exact .sl n g A cap size b off q hc hm hA (fun i hi => by rw [← hs i hi]; exact hl i hi) hg (fun i k d hi hk => hd i k d hi (by rw [hs i hi]; exact hk))
inductive Sims : List D → List D → Prop where
  | nil : Sims [] []
  | cons {d e : D} {l m : List D} (h : Sim d e) (t : Sims l m) : Sims (d :: l) (e :: m)
theorem Sims.length {l m : List D} (h : Sims l m) : l.length = m.length := by
  induction h with
  | nil => rfl
  | cons _ _ ih => simp [ih]
theorem Sims.rd {w : World} {ok : Nat → Prop} {l m : List D} (h : Sims l m) : ∀ (i : Nat) (e : D), m[i]? = some e → ∃ d, l[i]? = some d ∧ Sim d e := by
  induction h with
  | nil => intro i e hi; simp at hi
  | cons h _ ih =>
    intro i e hi
    cases i with
    | zero => cases hi; exact ⟨_, rfl, h⟩
    | succ i => simpa using ih i e (by simpa using hi)
theorem FnOk.sim {P : Program} {f : FuncId} {l m : List D} {res : D} (s : Sims l m) (h : FnOk P f m res) : FnOk P f l res :=
  ⟨h.1, fun ok w vs hok hs ha => h.2 ok w vs hok hs ⟨ha.1.trans s.length, fun i e hi => by
    obtain ⟨d, h1, h2⟩ := s.rd (w := w) (ok := ok) i e hi
    obtain ⟨v, h3, h4⟩ := ha.2 i d h1
    exact ⟨v, h3, h2.rd h4⟩⟩⟩
/-- Rows that were laid out one by one are rows of a list. -/
theorem Sim.rows {α : Type} {e : α → List D} {dflt : α} {es : List (List D)} {z : List D} (l : List α) (h : es = l.map e) : Sim (.sl l.length fun i => es.getD i z) (.sl l.length fun i => e (l.getD i dflt)) := by
  subst h
  exact .sl _ _ _ fun i hi => by simp [List.getD, List.getElem?_map, List.getElem?_eq_getElem hi]
/-- Whatever reads as d reads as e. -/
def Same (d e : D) : Prop := ∀ (w : World) (ok : Nat → Prop) (v : Value), RdD w ok d v → RdD w ok e v
theorem Same.refl (d : D) : Same d d := fun _ _ _ h => h
theorem Same.trans {a b c : D} (h : Same a b) (k : Same b c) : Same a c := fun w ok v hv => k w ok v (h w ok v hv)
theorem Same.sl {n : Nat} {f g : Nat → List D} (h : ∀ i, i < n → f i = g i) : Same (.sl n f) (.sl n g) := fun _ _ _ hv => (Sim.sl n f g h).rd hv
inductive SameL : List D → List D → Prop where
  | nil : SameL [] []
  | cons {d e : D} {l m : List D} (h : Same d e) (t : SameL l m) : SameL (d :: l) (e :: m)
theorem SameL.length {l m : List D} (h : SameL l m) : l.length = m.length := by
  induction h with
  | nil => rfl
  | cons _ _ ih => simp [ih]
theorem SameL.get {l m : List D} (h : SameL l m) : ∀ (i : Nat) (e : D), m[i]? = some e → ∃ d, l[i]? = some d ∧ Same d e := by
  induction h with
  | nil => intro i e hi; simp at hi
  | cons h _ ih =>
    intro i e hi
    cases i with
    | zero => cases hi; exact ⟨_, rfl, h⟩
    | succ i => simpa using ih i e (by simpa using hi)
theorem SameL.refl : ∀ l : List D, SameL l l
  | [] => .nil
  | d :: l => .cons (Same.refl d) (SameL.refl l)
theorem Same.tup {l m : List D} (h : SameL l m) : Same (.tup l) (.tup m) := fun w ok v hv => by
  cases hv with
  | tup _ vs g hn hg hd =>
    refine .tup m vs g (by rw [← h.length]; exact hn) (fun i hi => hg i (by rw [h.length]; exact hi)) fun i e hi => ?_
    obtain ⟨d, h1, h2⟩ := h.get i e hi
    exact h2 w ok _ (hd i d h1)
theorem Same.agg {l m : List D} (h : SameL l m) : Same (.agg l) (.agg m) := fun w ok v hv => by
  cases hv with
  | agg _ vs g hn hg hd =>
    refine .agg m vs g (by rw [← h.length]; exact hn) (fun i hi => hg i (by rw [h.length]; exact hi)) fun i e hi => ?_
    obtain ⟨d, h1, h2⟩ := h.get i e hi
    exact h2 w ok _ (hd i d h1)
theorem Same.rows {n : Nat} {f g : Nat → List D} (h : ∀ i, i < n → SameL (f i) (g i)) : Same (.sl n f) (.sl n g) := fun w ok v hv => by
  cases hv with
  | sl _ _ A cap size b off k hc hm hA hl hg hd =>
    refine .sl n g A cap size b off k hc hm hA (fun i hi => by rw [← (h i hi).length]; exact hl i hi) hg fun i j e hi hj => ?_
    obtain ⟨d, h1, h2⟩ := (h i hi).get j e hj
    exact h2 w ok _ (hd i j d hi h1)
theorem FnOk.same {P : Program} {f : FuncId} {l m : List D} {res : D} (s : SameL l m) (h : FnOk P f m res) : FnOk P f l res :=
  ⟨h.1, fun ok w vs hk hs ha => h.2 ok w vs hk hs ⟨by rw [ha.1, s.length], fun i e hi => by
    obtain ⟨d, h1, h2⟩ := s.get i e hi
    obtain ⟨v, h3, h4⟩ := ha.2 i d h1
    exact ⟨v, h3, h2 w ok v h4⟩⟩⟩
/-! A contract of the library's shelf, at literal arguments. -/
theorem lits_rd {w : World} {ok : Nat → Prop} {as : List Value} {vs : Array Value} (h : ArgsRd w ok (as.map D.lit) vs) : vs = as.toArray := by
  obtain ⟨h1, h2⟩ := h
  apply Array.ext'
  simp only
  apply List.ext_getElem?
  intro i
  by_cases hi : i < as.length
  · obtain ⟨v, h3, h4⟩ := h2 i (.lit as[i]) (by simp [hi])
    cases h4
    rw [Array.getElem?_toList, h3]
    simp [hi]
  · rw [Array.getElem?_toList, Array.getElem?_eq_none (by rw [h1]; simp; omega), List.getElem?_eq_none (by omega)]
theorem fnOk_litsB {P : Program} {f : FuncId} (as : List Value) {v : Value} (hf : callB P f = true) (h : ∀ w, Std P w → Calls P f as.toArray w fun e w' => e = .returned v ∧ Below w.heap.size w w') : FnOk P f (as.map D.lit) (.lit v) :=
  ⟨hf, fun ok w vs _ hs ha => by
    rw [lits_rd ha]
    exact (h w hs).mono fun e w' ⟨he, hb⟩ => ⟨v, he, hb, .lit v⟩⟩
theorem fnOk_lits {P : Program} {f : FuncId} (as : List Value) {v : Value} (hf : callB P f = true) (h : ∀ w, Std P w → Calls P f as.toArray w fun e w' => e = .returned v ∧ w' = w) : FnOk P f (as.map D.lit) (.lit v) :=
  fnOk_litsB as hf fun w hs => (h w hs).mono fun e w' ⟨he, hw⟩ => ⟨he, hw ▸ Below.refl _ _⟩
end Go.Lw
