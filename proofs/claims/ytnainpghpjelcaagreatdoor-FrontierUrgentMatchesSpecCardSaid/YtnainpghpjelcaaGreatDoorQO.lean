/-
  A CALL THAT HANDS BACK SOMETHING OF WHICH A PART IS NOT KNOWN (an error, say).
-/
import Derived.Test.YtnainpghpjelcaaGreatDoorLwRun
import Derived.Test.YtnainpghpjelcaaGreatDoorQR
import Derived.Test.YtnainpghpjelcaaGreatDoorNm
import Derived.Test.YtnainpghpjelcaaGreatDoorLwFlt
import Derived.Lib.AppendIntMem
set_option linter.unusedSimpArgs false
set_option linter.unusedVariables false
namespace Go.Lw
open Go Go.RowKit

/-- THE CONTRACT OF A PURE FUNCTION, its result not all data. -/
def FnV (P : Program) (f : FuncId) (args : List D) (res : V) : Prop :=
  callB P f = true ∧ ∀ (ok : Nat → Prop) (w : World) (vs : Array Value), (∀ k, ok k → k < w.heap.size) → Std P w → ArgsRd w ok args vs →
    Calls P f vs w fun e w' => ∃ v, e = .returned v ∧ Below w.heap.size w w' ∧ ∀ h, RdV w' (fresh ok w w') h res v
section
variable {C : Ctx} {P : Program} {nt : Nat} {st st' : St} {Q : Exit → St → Prop} {K : St → Prop} {o : Oper} {rest : List Oper} {ops : Array Oper}
theorem opsW_callV {x : Operand} {f : FuncId} {args : Array Operand} {ts : Array TypeId} {y : V} {xs caps : List V} {ds : List D} {g : Bool} {res : V} (hc : CtxOk C)
    (hw : gE ops o st = some g) (ho : o.op = .call { callee := .value x, args := args, argTypes := ts }) (hy : ev g st x = some y) (hx : calleeE (some y) = some (f, caps)) (hl : evL g st args.toList = some xs) (ha : asDL st (xs ++ caps) = some (ds, false))
    (hf : g = true → FnV C.P f ds res) (hd : dstB C.nt o.dst = true) (hk : opsW C ops rest (st.put o.dst (whenE o g res)) K) : opsW C ops (o :: rest) st K := by
  intro a w ⟨ok, h, r⟩ Q hQ
  refine wpList_step fun K' hK => ?_
  rw [wanted_of r hw]
  by_cases hg : g = true
  rotate_left
  · rw [if_neg hg]
    exact hK _ _ (hk _ _ ⟨ok, h, r.put (dstB_spec hd) (whenE_one hw (by simpa using hg))⟩ Q hQ)
  rw [if_pos hg]
  replace hf := hf hg
  unfold Oper.wp
  obtain ⟨cs, h1, h2, h3⟩ := callArgs_sound hg r hx (ev_sound hg r hy) hl
  rw [Array.toArray_toList] at h2 h3
  rw [run_call hf.1 ho h1, Oper.upon_enter]
  refine (hf.2 ok w _ (fun k hk => (r.mem.okb k hk).1) (r.mem.std hc) (args_rd r ha h2 h3)).mono fun e w' ⟨v, he, hbl, hr⟩ => ?_
  subst he
  refine hK _ _ (hk _ _ ⟨fresh ok w w', h, ?_⟩ Q hQ)
  have hmem := r.mem.below (ok' := fresh ok w w') hbl (fun b hb => .inl hb) (fun b hb => hb) hc.lt
  have r' : Rep C st (fresh ok w w') h a w' := ⟨hmem, r.defers, r.nt, r.pin, fun i y hy => by
    obtain ⟨h5, u, h6, h7⟩ := r.slot i y hy
    exact ⟨h5, u, h6, h7.mono (fun b hb => hbl.block b (r.mem.okb b hb).1) fun b hb => .inl hb⟩⟩
  exact r'.put (dstB_spec hd) (whenE_yes hg (hr h))
theorem run_callV (hc : CtxIs C P nt) {x : Operand} {f : FuncId} {args : Array Operand} {ts : Array TypeId} {d : Option Tmp} {ty : TypeId} {pos : String} {af : Array Edge} {gd : Option (Nat × Bool)} {y : V} {xs caps : List V} {ds : List D} {g : Bool} {res : V} {st2 : St}
    (hw : Gives (gE ops { dst := d, op := .call { callee := .value x, args := args, argTypes := ts }, type := ty, pos := pos, after := af, guard := gd } st) g)
    (hy : Gives (ev g st x) y) (hx : Gives (calleeE (some y)) (f, caps)) (hl : Gives (evL g st args.toList) xs) (ha : Gives (asDL st (xs ++ caps)) (ds, false)) (hf : g = true → FnV P f ds res) (hd : dstB nt d = true) (h2 : Gives (some (st.put d (if gd.isNone then res else .when g res))) st2) (hk : opsW C ops rest st2 K) :
    opsW C ops ({ dst := d, op := .call { callee := .value x, args := args, argTypes := ts }, type := ty, pos := pos, after := af, guard := gd } :: rest) st K := by
  obtain ⟨rfl, rfl, hok⟩ := hc
  cases h2
  exact opsW_callV hok hw rfl hy hx hl ha hf hd hk
end
end Go.Lw
/-
  CHAPTER 1's REFERENCE: numbers of ports; the normal form of an address. (WITH run_drawN.)
-/
set_option linter.unusedSimpArgs false
set_option linter.unusedVariables false
namespace Go.Proofs.YtnainpghpjelcaaGreatDoor
open Go.Lw Go.RowKit
set_option maxRecDepth 100000
set_option maxHeartbeats 1000000

abbrev noZero (s : Bs) : Bs := s.dropWhile fun c => decide (c = 48)
theorem digN_snoc (t : Bs) (c : UInt8) : digN (t ++ [c]) = 10 * digN t + (c.toNat - 48) := by simp [digN]
theorem last_cases (s : Bs) : s = [] ∨ ∃ t c, s = t ++ [c] := by
  rcases List.eq_nil_or_concat s with h | ⟨t, c, h⟩
  · exact .inl h
  · exact .inr ⟨t, c, by simpa using h⟩
theorem zero_drop (s : Bs) (h : s.all isDig = true) (h0 : digN s = 0) : noZero s = [] := by
  generalize hn : s.length = n
  induction n using Nat.strongRecOn generalizing s with
  | _ n ih =>
    rcases last_cases s with rfl | ⟨t, c, rfl⟩
    · rfl
    · rw [digN_snoc] at h0
      simp only [List.all_append, List.all_cons, List.all_nil, Bool.and_true, Bool.and_eq_true] at h
      have hc : 48 ≤ c.toNat ∧ c.toNat ≤ 57 := by simpa [isDig] using h.2
      have e : c = 48 := UInt8.toNat_inj.1 (by simp; omega)
      have ht := ih t.length (by simp at hn; omega) t h.1 (by omega) rfl
      unfold noZero at ht ⊢
      rw [List.dropWhile_append, ht, e]
      rfl
theorem dec_drop (s : Bs) (h : s.all isDig = true) (h0 : digN s ≠ 0) : Lib.decDigits (digN s) = noZero s := by
  generalize hn : s.length = n
  induction n using Nat.strongRecOn generalizing s with
  | _ n ih =>
    rcases last_cases s with rfl | ⟨t, c, rfl⟩
    · exact absurd rfl h0
    · rw [digN_snoc] at h0 ⊢
      simp only [List.all_append, List.all_cons, List.all_nil, Bool.and_true, Bool.and_eq_true] at h
      have hc : 48 ≤ c.toNat ∧ c.toNat ≤ 57 := by simpa [isDig] using h.2
      have ec : UInt8.ofNat (48 + (c.toNat - 48)) = c := UInt8.toNat_inj.1 (by simp; omega)
      by_cases hz : digN t = 0
      · have ht := zero_drop t h.1 hz
        unfold noZero at ht ⊢
        have hne : ¬ c = 48 := fun e => by rw [hz, e] at h0; exact h0 rfl
        rw [List.dropWhile_append, ht, hz]
        rw [show 10 * 0 + (c.toNat - 48) = c.toNat - 48 by omega, Lib.decDigits_one (by omega), ec]
        simp [hne]
      · have ht := ih t.length (by simp at hn; omega) t h.1 hz rfl
        have hne : noZero t ≠ [] := by
          intro e
          rw [← ht, Lib.decDigits] at e
          split at e <;> simp at e
        rw [Lib.decDigits, dif_neg (by omega), show (10 * digN t + (c.toNat - 48)) / 10 = digN t by omega, show (10 * digN t + (c.toNat - 48)) % 10 = c.toNat - 48 by omega, ht, ec]
        unfold noZero at hne ⊢
        rw [List.dropWhile_append, if_neg (by simpa using hne)]
theorem digN_drop : ∀ s : Bs, digN (noZero s) = digN s
  | [] => rfl
  | c :: r => by
    unfold noZero
    by_cases h : c = 48
    · rw [List.dropWhile_cons_of_pos (by simp [h])]
      have := digN_drop r
      unfold noZero at this
      rw [this, h]
      rfl
    · rw [List.dropWhile_cons_of_neg (by simp [h])]
/-- What the reference makes of a port that is right. -/
theorem port_q {sc p : Bs} (h : p.all isDig = true) (h0 : digN p ≠ 0) : portN sc (noZero p) = if ¬ (digN p = 80 ∧ sc = [104, 116, 116, 112]) ∧ ¬ (digN p = 443 ∧ sc = [104, 116, 116, 112, 115]) then Lib.decDigits (digN p) else [] := by
  have h1 := dec_drop p h h0
  have h2 := digN_drop p
  have e80 : noZero p = [56, 48] ↔ digN p = 80 := by
    constructor
    · intro e; rw [← h2, e]; rfl
    · intro e; rw [← h1, e]; decide +kernel
  have e443 : noZero p = [52, 52, 51] ↔ digN p = 443 := by
    constructor
    · intro e; rw [← h2, e]; rfl
    · intro e; rw [← h1, e]; decide +kernel
  unfold portN
  by_cases a : digN p = 80 ∧ sc = [104, 116, 116, 112]
  · rw [if_pos (.inl ⟨a.2, e80.2 a.1⟩), if_neg (fun h => h.1 a)]
  · by_cases b : digN p = 443 ∧ sc = [104, 116, 116, 112, 115]
    · rw [if_pos (.inr ⟨b.2, e443.2 b.1⟩), if_neg (fun h => h.2 b)]
    · rw [if_neg (fun h => h.elim (fun h => a ⟨e80.1 h.2, h.1⟩) (fun h => b ⟨e443.1 h.2, h.1⟩)), if_pos ⟨a, b⟩, h1]
theorem port_none (sc : Bs) : portN sc (noZero []) = [] := by unfold portN; split <;> rfl
theorem atoi_none : FnV Tryz.prog 193 [str []] (.vtup [.d (int 0), .any]) :=
  ⟨by kernel_rfl, fun ok w vs _ hstd ha => by
    have h0 : ArgsRd w ok ([Value.string (bs [])].map D.lit) vs := ha
    obtain rfl : vs = #[.string (bs [])] := lits_rd h0
    obtain ⟨te, pe, hcell⟩ := hstd.2.2.1 4 (of_decide_eq_true (by kernel_rfl)) (by kernel_rfl)
    refine (Tryz.strconv_Atoi_err (bs []) (by simp) (by rfl) (.iface te pe) w hcell (.inr ⟨_, _, rfl⟩)).mono fun e w' ⟨N, he, _, _, hb⟩ => ⟨_, he, hb, fun h => ?_⟩
    exact .vtup _ _ (fun i => (#[Value.int .i64 0, _])[i]?.getD undef) rfl (fun i hi => by
      match i, hi with
      | 0, _ => rfl
      | 1, _ => rfl) (fun i d hd => by
      match i, hd with
      | 0, hd => cases hd; exact .d _ _ (.lit _)
      | 1, hd => cases hd; exact .any _)⟩
theorem itoa_ok (n : Nat) (hn : n ≤ 100000) : FnOk Tryz.prog 80 [int n] (str (Lib.decDigits n)) :=
  fnOk_litsB [.int .i64 n] (by kernel_rfl) fun w hs => by
    obtain ⟨t, fr, hcell⟩ := hs.2.2.2 1 (of_decide_eq_true (by kernel_rfl)) (by kernel_rfl)
    have hg : Tryz.prog.globalNamed "internal/strconv.uint64pow10" = some 1 := by kernel_rfl
    have ht : Lib.TabIs Tryz.prog w "internal/strconv.uint64pow10" .u64 Lib.pow10Tab := by
      unfold Lib.TabIs World.var?
      rw [hg]
      simp only [Option.bind_some, hcell]
      rfl
    refine (Tryz.strconv_Itoa n (by omega) (by omega) w ht).mono fun e w' ⟨he, k, os, hw⟩ => ⟨?_, ?_⟩
    · rw [he, Lib.itoa_nonneg]; rfl
    · rw [hw]; exact Lib.below_grow _ w (Nat.le_refl _) k os
end Go.Proofs.YtnainpghpjelcaaGreatDoor
/-
  CHAPTER 1's REFERENCE: the normal form of an address; AddressChecksMatchSpec's own walk. (WITH run_drawN.)
-/
set_option linter.unusedSimpArgs false
set_option linter.unusedVariables false
namespace Go.Proofs.YtnainpghpjelcaaGreatDoor
open Go.Lw Go.RowKit
set_option maxRecDepth 100000
set_option maxHeartbeats 2000000

theorem norm_47 {p : Bs} (h : p = [] ∨ p[0]? = some 47) : normR p = [] ∨ (normR p)[0]? = some 47 := by
  cases p with
  | nil => left; rfl
  | cons c r =>
    right
    have hc : c = 47 := by
      rcases h with h | h
      · cases h
      · simpa using h
    subst hc
    rw [normR.eq_def]
    simp only
    rw [if_neg (by decide)]
    rfl
theorem qNormalOf_ok (a : Adr) (h : chkC a = 0) : FnOk Tryz.prog 183 [adrD a] (adrD (normA a)) := by
  refine fnOk Tryz.func183 rfl (by kernel_rfl) Tryz.ntmps183 _ rfl (by simp) fun C hc => ?_
  obtain ⟨hA, hl⟩ := (chk_iff a).1 h
  have hf := chk_fits h
  have hpl := part_len a
  have hql : a.query.length ≤ 2000 := by
    by_cases e : a.query = []
    · simp [e]
    · have hq := hA.hasQ e
      have : (writeA a).length = a.scheme.length + 3 + a.host.length + (pPart a).length + (a.path.length + (qPart a).length + (fPart a).length) := by simp [writeA, behindA]; omega
      have h2 : (qPart a).length = a.query.length + 1 := by unfold qPart; rw [if_pos hq]; simp
      omega
  have hS1 := qSmall_ok a.scheme (by omega)
  have hS2 := qSmall_ok a.host (by omega)
  have hN1 := qCoded_ok a.path (by omega) (row63 hA.path)
  have hN2 := qCoded_ok a.query (by omega) hA.query
  have hnl := normR_len a.path
  have hD := qDotsA_ok (normR a.path) (norm_47 hA.slash) (by omega)
  unfold normA pathN
  rcases hA.port with hp | hp
  · have hAt : FnV Tryz.prog 193 [str a.port] (.vtup [.d (int 0), .any]) := by rw [hp]; exact atoi_none
    rw [show portN (small a.scheme) (a.port.dropWhile fun c => decide (c = 48)) = [] by rw [hp]; exact port_none _]
    generalize small a.scheme = sc at hS1 ⊢
    generalize small a.host = ho at hS2 ⊢
    generalize normR a.path = pa at hN1 hD ⊢
    generalize normR a.query = qu at hN2 ⊢
    generalize undotP pa = up at hD ⊢
    repeat' (first | (first | refine Ya ?_ | refine Yb ?_ | refine Yc ?_ | refine Yd ?_ | refine Ye ?_ | refine Yf ?_ | refine Yg ?_ | refine Yh ?_ | refine Yi ?_ | refine Yj ?_ | refine Yk ?_ | refine Yl ?_ | refine Ym ?_ | refine Yn ?_ | refine Yo ?_ | refine Yp (h := ?_) | refine Yq ?_ | refine Yr ?_ | refine Ys ?_ | refine Zr hc (hk := ?_) | refine Zd hc (hk := ?_) | (refine Zc (ht := fun hb => ?_) (hf := fun hb => ?_) <;> (try simp at hb)) | fail) | (refine run_drawF 16 hc (by kernel_rfl) rfl (by kernel_rfl) rfl (by simp; exact Gives.mk) ?_; try simp only [List.take_succ_cons, List.take_zero, List.drop_succ_cons, List.drop_zero]) | (first | refine run_callV hc (by simp; exact Gives.mk) (by simp; exact Gives.mk) (by simp; exact Gives.mk) (by simp; exact Gives.mk) (by simp; exact Gives.mk) (fun _ => hAt) (by simp) (by simp; exact Gives.mk) ?_ | fail) | (first | refine Zw hc (hf := by first | exact hS1 | exact hS2 | exact hN1 | exact hN2 | exact hD) (hk := ?_) | refine Zq hc (hf := by first | exact hS1 | exact hS2 | exact hN1 | exact hN2 | exact hD) (hk := ?_) | refine Zo hc (hk := ?_) | refine Zu hc (hk := ?_) | refine Ze hc (hk := ?_) | refine Zn hc (hk := ?_) | fail))
    all_goals try (exfalso; omega)
    · rw [if_pos hb]
      (refine Zl hc (hr := ?_))
      simp
    · rw [if_neg hb]
      (refine Zl hc (hr := ?_))
      simp
  · obtain ⟨hd1, hd2⟩ := port_digits hp
    have hd5 : a.port.length ≤ 5 := Classical.byContradiction fun e => hp (portB_no a.port (fun h => e h.2.1))
    have hnz : digN a.port ≠ 0 := fun e => hp (by rw [portB_yes a.port ⟨hd1, hd5, hd2⟩, e]; rfl)
    have hle : digN a.port ≤ 100000 := by
      have := portB_yes a.port ⟨hd1, hd5, hd2⟩
      rcases Nat.lt_or_ge 65535 (digN a.port) with h | h
      · rw [if_neg (by omega)] at this; exact absurd this hp
      · omega
    have hAt := atoi_ok a.port hd1 hd5 hd2
    have hIt := itoa_ok (digN a.port) hle
    have hPo := port_q (sc := small a.scheme) hd2 hnz
    unfold noZero at hPo
    rw [hPo]
    generalize digN a.port = pn at hAt hIt hnz hle ⊢
    generalize Lib.decDigits pn = pd at hIt ⊢
    generalize small a.scheme = sc at hS1 ⊢
    generalize small a.host = ho at hS2 ⊢
    generalize normR a.path = pa at hN1 hD ⊢
    generalize normR a.query = qu at hN2 ⊢
    generalize undotP pa = up at hD ⊢
    repeat' (first | (first | refine Ya ?_ | refine Yb ?_ | refine Yc ?_ | refine Yd ?_ | refine Ye ?_ | refine Yf ?_ | refine Yg ?_ | refine Yh ?_ | refine Yi ?_ | refine Yj ?_ | refine Yk ?_ | refine Yl ?_ | refine Ym ?_ | refine Yn ?_ | refine Yo ?_ | refine Yp (h := ?_) | refine Yq ?_ | refine Yr ?_ | refine Ys ?_ | refine Zr hc (hk := ?_) | refine Zd hc (hk := ?_) | (refine Zc (ht := fun hb => ?_) (hf := fun hb => ?_) <;> (try simp at hb)) | fail) | (refine run_drawF 16 hc (by kernel_rfl) rfl (by kernel_rfl) rfl (by simp; exact Gives.mk) ?_; try simp only [List.take_succ_cons, List.take_zero, List.drop_succ_cons, List.drop_zero]) | (first | refine Zw hc (hf := by first | exact hS1 | exact hS2 | exact hN1 | exact hN2 | exact hD | exact hAt | exact hIt) (hk := ?_) | refine Zq hc (hf := by first | exact hS1 | exact hS2 | exact hN1 | exact hN2 | exact hD | exact hAt | exact hIt) (hk := ?_) | refine Zo hc (hk := ?_) | refine Zu hc (hk := ?_) | refine Ze hc (hk := ?_) | refine Zn hc (hk := ?_) | fail))
    all_goals try (exfalso; omega)
    · rename_i k
      rw [if_pos ⟨fun e => k.1.2.elim (fun h => h (by omega)) (fun h => h e.2), fun e => k.2.elim (fun h => h (by omega)) (fun h => h e.2)⟩, if_pos hb]
      (refine Zl hc (hr := ?_))
      simp
    · rename_i k
      rw [if_pos ⟨fun e => k.1.2.elim (fun h => h (by omega)) (fun h => h e.2), fun e => k.2.elim (fun h => h (by omega)) (fun h => h e.2)⟩, if_neg hb]
      (refine Zl hc (hr := ?_))
      simp
    · rename_i k
      rw [if_neg (fun e => by
        have k2 := k hnz (by
          by_cases h : pn = 80
          · exact .inr (fun h2 => e.1 ⟨h, h2⟩)
          · exact .inl (by omega))
        exact e.2 ⟨by omega, k2.2⟩), if_pos hb]
      (refine Zl hc (hr := ?_))
      simp
    · rename_i k
      rw [if_neg (fun e => by
        have k2 := k hnz (by
          by_cases h : pn = 80
          · exact .inr (fun h2 => e.1 ⟨h, h2⟩)
          · exact .inl (by omega))
        exact e.2 ⟨by omega, k2.2⟩), if_neg hb]
      (refine Zl hc (hr := ?_))
      simp
end Go.Proofs.YtnainpghpjelcaaGreatDoor
