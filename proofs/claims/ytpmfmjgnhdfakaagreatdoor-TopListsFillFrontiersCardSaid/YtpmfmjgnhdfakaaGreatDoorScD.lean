/-
  slices.Backward over scopes: the iterator's contract.
-/
import Derived.RangeFuncNested
import Derived.RangeFuncLeaves
import Derived.RangeFuncBox
import Derived.Shelf.Abstract
import Derived.WalkKit
import Derived.OwnWalkIn
import Derived.TacticsInMore
import Derived.LoopNIn
import Derived.LoopIn
import Derived.Test.YtpmfmjgnhdfakaaGreatDoorLibS
import Derived.Test.YtpmfmjgnhdfakaaGreatDoorKeyH
set_option linter.unusedSimpArgs false
set_option linter.unusedVariables false
namespace Go.Proofs.YtpmfmjgnhdfakaaGreatDoor
open Go.RowKit Go.Shelf Go.Lw
attribute [local go_sem] Oper.semAt_some
set_option maxRecDepth 100000
set_option maxHeartbeats 2000000

/-- A scope: its kind, its key, whether it is left out. -/
abbrev Scp := Int × Bs × Bool
abbrev scp0 : Scp := (0, [], false)
abbrev scpAt (L : List Scp) (j : Nat) : Scp := L[j]?.getD scp0
abbrev scpV (x : Scp) : Value := .agg #[.int .i64 x.1, .string (bs x.2.1), .bool x.2.2]
/-- A slice value that holds scopes, in a block below n₀. -/
def HasScp (n₀ : Nat) (W : World) (A : Option Addr) (cap b off : Nat) (L : List Scp) : Prop :=
  L.length ≤ cap ∧ cap ≤ maxLen ∧ (0 < L.length → A = some ⟨b, off, none⟩ ∧ b < n₀) ∧
    ∀ j, j < L.length → W.cell? ⟨b, off + j * 3, none⟩ = some (.int .i64 (scpAt L j).1) ∧ W.cell? ⟨b, off + j * 3 + 1, none⟩ = some (.string (bs (scpAt L j).2.1)) ∧ W.cell? ⟨b, off + j * 3 + 2, none⟩ = some (.bool (scpAt L j).2.2)
theorem HasScp.below {n₀ : Nat} {W W' : World} {A : Option Addr} {cap b off : Nat} {L : List Scp} (h : HasScp n₀ W A cap b off L) (hb : Below n₀ W W') : HasScp n₀ W' A cap b off L := by
  obtain ⟨h1, h2, h3, h4⟩ := h
  refine ⟨h1, h2, h3, fun j hj => ?_⟩
  have hlt := (h3 (by omega)).2
  obtain ⟨k1, k2, k3⟩ := h4 j hj
  exact ⟨(hb.cell (p := ⟨b, off + j * 3, none⟩) hlt).trans k1, (hb.cell (p := ⟨b, off + j * 3 + 1, none⟩) hlt).trans k2, (hb.cell (p := ⟨b, off + j * 3 + 2, none⟩) hlt).trans k3⟩
/-- What has come when k rounds are over: from the last one on. -/
def upB (L : List Scp) (k : Nat) : List (Nat × Scp) := (List.range k).map fun j => (L.length - 1 - j, scpAt L (L.length - 1 - j))
theorem upB_succ (L : List Scp) (k : Nat) : upB L (k + 1) = upB L k ++ [(L.length - 1 - k, scpAt L (L.length - 1 - k))] := by simp [upB, List.range_succ]
theorem upB_length (L : List Scp) (k : Nat) : (upB L k).length = k := by simp [upB]
theorem back1_in (F : Fence) (n : Nat) (h7 : F.fn 79) (hro : F.round = none) (hn : 1 ≤ n) (l Bs n₀ b off cap : Nat) (A : Option Addr) (L : List Scp) (q : Scp → Prop) (hq : ∀ x ∈ L, q x) (J Jx : List (Nat × Scp) → World → Prop)
    (hY : ∀ (pre : List (Nat × Scp)) (x : Nat × Scp) W, q x.2 → J pre W → pre.length < L.length → YieldAt F (n - 1) Tryz.prog l #[.int .i64 (x.1 : Int), scpV x.2] W fun e W' =>
      (e = .returned (.bool true) ∧ J (pre ++ [x]) W' ∧ Below n₀ W W') ∨ (e = .returned (.bool false) ∧ Jx (pre ++ [x]) W'))
    (W : World) (hBs : W.cell? ⟨Bs, 0, none⟩ = some (.slice A L.length cap)) (hBn : Bs < n₀) (hS : HasScp n₀ W A cap b off L) (h0 : J [] W) :
    CallsIn F n Tryz.prog 79 #[.func (.yield l) #[] #[], .pointer (some ⟨Bs, 0, none⟩)] W fun e W' => (∃ v, e = .returned v) ∧
      ((∃ ys, ys = upB L L.length ∧ J ys W') ∨ (∃ pre, (∃ k, k ≤ L.length ∧ pre = upB L k) ∧ Jx pre W')) := by
  refine callsIn_of_wp Tryz.func79 rfl h7 ?_ hro
  simp only [Tryz.ntmps79, List.size_toArray, List.length_cons, List.length_nil, Nat.reduceAdd, Nat.reduceSub, Array.replicate_succ, Array.replicate_zero, List.push_toArray, List.append_toArray, List.nil_append, List.cons_append]
  have hlen : (L.length : Int) ≤ 9223372036854775807 := by have := hS.1; have := hS.2.1; simp only [maxLen] at this; omega
  gi_wp2
  gi_loopw [3] (fun i wr => ∃ k : Nat, k ≤ L.length ∧ i = .int .i64 ((L.length : Int) - 1 - k) ∧ J (upB L k) wr ∧ Below n₀ W wr)
    (fun i _ => (intOf i + 1).toNat)
  case atStart => exact ⟨0, Nat.zero_le _, by simp, h0, Below.refl _ _⟩
  case round =>
    obtain ⟨k, hk, rfl, hJs, hnx⟩ := hrel
    have hBs' : wr.cell? ⟨Bs, 0, none⟩ = some (.slice A L.length cap) := (hnx.cell (p := ⟨Bs, 0, none⟩) hBn).trans hBs
    by_cases hlt : k < L.length
    · obtain ⟨hA, hb⟩ := hS.2.2.1 (by omega)
      subst hA
      obtain ⟨j, hj, hjz, hjl⟩ : ∃ j : Nat, Aside (j = L.length - 1 - k) ∧ ((L.length : Int) - 1 - k) = (j : Int) ∧ (j : Int) < (L.length : Int) := ⟨L.length - 1 - k, rfl, by omega, by omega⟩
      obtain ⟨c1, c2, c3⟩ := (hS.below hnx).2.2.2 j (by omega)
      obtain ⟨fn, tmps, assign, body, hy, hR⟩ := hY _ (j, scpAt L j) wr (hq _ (by unfold scpAt; rw [List.getElem?_eq_getElem (by omega)]; exact List.getElem_mem _)) hJs (by rw [upB_length]; exact hlt)
      dsimp only at hy
      rw [hjz]
      clear hjz
      gi_wp2
      refine hR.mono ?_
      rintro e W3 (⟨rfl, hJ3, hk3⟩ | ⟨rfl, hJx3⟩)
      · gi_wp2
        go_roundw
        case rel =>
          have hj' := hj.out
          exact ⟨k + 1, by omega, by first | (simp; done) | (simp; omega), by rw [upB_succ, ← hj']; exact hJ3, hnx.trans hk3⟩
        case measure => first | (simp [intOf]; done) | (simp [intOf]; omega)
      · gi_wp2
        refine bodyPost_ret (results_none rfl _ _ _) rfl ?_
        exact ⟨⟨_, rfl⟩, .inr ⟨_, ⟨k + 1, by omega, by rw [upB_succ, ← hj.out]⟩, hJx3⟩⟩
    · obtain rfl : k = L.length := by omega
      rw [show ((L.length : Int) - 1 - (L.length : Int)) = -1 by omega]
      gi_wp2
      go_end0
      exact ⟨⟨_, rfl⟩, .inl ⟨_, rfl, hJs⟩⟩
theorem back_in (F : Fence) (n : Nat) (h5 : F.fn 37) (hro : F.round = none) (A : Option Addr) (len cap : Nat) (w : World) :
    CallsIn F n Tryz.prog 37 #[.slice A len cap] w fun e w' => e = .returned (.func (.func 79) #[] #[.pointer (some ⟨w.heap.size, 0, none⟩)]) ∧ w' = w.alloc (.cells #[.slice A len cap] 53) := by
  refine callsIn_of_wp Tryz.func37 rfl h5 ?_ hro
  simp only [Tryz.ntmps37, List.size_toArray, List.length_cons, List.length_nil, Nat.reduceAdd, Nat.reduceSub, Array.replicate_succ, Array.replicate_zero, List.push_toArray, List.append_toArray, List.nil_append, List.cons_append]
  gi_wp2
  go_ret
  exact ⟨rfl, rfl⟩
theorem back_stops (F : Fence) (n : Nat) (h7 : F.fn 79) (hro : F.round = none) (hn : 1 ≤ n) (Bs n₀ b off cap : Nat) (A : Option Addr) (L : List Scp) (q : Scp → Prop) (hq : ∀ x ∈ L, q x) (w : World) (hBs : Bs < n₀) (hn₀ : n₀ ≤ w.heap.size)
    (hc : w.cell? ⟨Bs, 0, none⟩ = some (.slice A L.length cap)) (hS : HasScp n₀ w A cap b off L) :
    SeqStopsK F n Tryz.prog 79 #[.pointer (some ⟨Bs, 0, none⟩)] (fun x : { x : Nat × Scp // q x.2 } => #[Value.int .i64 (x.1.1 : Int), scpV x.1.2]) (Below n₀) (fun ys => ys.map (·.1) = upB L L.length)
      (fun pre => ∃ k, k ≤ L.length ∧ pre.map (·.1) = upB L k) L.length w := fun l J Jx W hW _ _ hY h0 => by
  have hW' : Below n₀ w W := hW.mono hn₀
  refine (back1_in F n h7 hro hn l Bs n₀ b off cap A L q hq (fun pre W => ∃ p : List { x : Nat × Scp // q x.2 }, p.map (·.1) = pre ∧ J p W) (fun pre W => ∃ p : List { x : Nat × Scp // q x.2 }, p.map (·.1) = pre ∧ Jx p W) ?_ W ((hW'.cell (p := ⟨Bs, 0, none⟩) hBs).trans hc) hBs (hS.below hW') ⟨[], rfl, h0⟩).mono ?_
  · rintro _ x W1 hx ⟨p, rfl, hp⟩ hl
    obtain ⟨fn, tmps, assign, body, hy, hR⟩ := hY p ⟨x, hx⟩ W1 hp (by simpa using hl)
    refine ⟨fn, tmps, assign, body, hy, hR.mono ?_⟩
    rintro e W' (⟨rfl, hj, hk⟩ | ⟨rfl, hj⟩)
    · exact .inl ⟨rfl, ⟨_, by simp, hj⟩, hk⟩
    · exact .inr ⟨rfl, ⟨_, by simp, hj⟩⟩
  · rintro e W' ⟨he, ⟨_, rfl, p, hp, hj⟩ | ⟨_, ⟨k, hk, rfl⟩, p, hp, hj⟩⟩
    · exact ⟨he, .inl ⟨p, hp, hj⟩⟩
    · exact ⟨he, .inr ⟨p, ⟨k, hk, hp⟩, hj⟩⟩
end Go.Proofs.YtpmfmjgnhdfakaaGreatDoor
/-
  ADDRESS: scopes: CheckScopes, covers, Covers (both sides), InScope (reference). (WITH run_drawN.)
-/
set_option linter.unusedSimpArgs false
set_option linter.unusedVariables false
namespace Go.Proofs.YtpmfmjgnhdfakaaGreatDoor
open Go.Lw Go.RowKit
set_option maxRecDepth 100000
set_option maxHeartbeats 2000000

abbrev scpCells (x : Scp) : List D := [int x.1, str x.2.1, tru x.2.2]
abbrev scpD (x : Scp) : D := .agg [int x.1, str x.2.1, tru x.2.2]
abbrev scpSl (L : List Scp) : D := .sl L.length fun i => [int (scpAt L i).1, str (scpAt L i).2.1, tru (scpAt L i).2.2]
/-- The fault of one scope. -/
def scpE (x : Scp) : Nat := if x.1 < 1 ∨ 4 < x.1 then 4 else (ofK x.2.1).2
def scpGo (L : List Scp) (j : Nat) : Nat := if j < L.length then (if scpE (scpAt L j) ≠ 0 then scpE (scpAt L j) else scpGo L (j + 1)) else 0
termination_by L.length - j
/-- The fault of scopes. -/
def scpC (L : List Scp) : Nat := if 200 < L.length then 2 else scpGo L 0
/-- Does a scope cover a key? -/
def covP (x : Scp) (k : Bs) : Bool :=
  if x.1 = 1 then decide (k = x.2.1) else if x.1 = 2 then x.2.1.isPrefixOf k else if x.1 = 3 then decide (hostK k = hostK x.2.1)
  else decide (hostK k = hostK x.2.1) || (hostK x.2.1 ++ [44]).isPrefixOf (hostK k)
theorem hostK_len (s : Bs) : (hostK s).length ≤ s.length := by
  unfold hostK
  have := (cut_len 41 s).1
  omega
theorem covers_ok (x : Scp) (k : Bs) (hx : (ofK x.2.1).2 = 0) (hk : (ofK k).2 = 0) : FnOk Tryz.prog 38 [scpD x, str k] (tru (covP x k)) := by
  refine fnOk Tryz.func38 rfl (by kernel_rfl) Tryz.ntmps38 _ rfl (by simp) fun C hc => ?_
  obtain ⟨n, s, b⟩ := x
  simp only at hx
  have ls : s.length ≤ 2000 := (ofK_cases s).elim (fun h => absurd hx h.1) (·.2.1)
  have lk : k.length ≤ 2000 := (ofK_cases k).elim (fun h => absurd hk h.1) (·.2.1)
  have hs1 := hostK_len s
  have h1 := hostOf_ok s (of_has hx) (by omega)
  have h2 := hostOf_ok k (of_has hk) (by omega)
  have h3 := hasPrefix_ok k s
  have h4 := hasPrefix_ok (hostK k) (hostK s ++ [44])
  unfold covP
  simp only
  generalize hostK s = u at h1 h4 hs1 ⊢
  generalize hostK k = v at h2 h4 ⊢
  generalize s.isPrefixOf k = p at h3 ⊢
  generalize (u ++ [44]).isPrefixOf v = q at h4 ⊢
  repeat' (first | (first | refine Ya ?_ | refine Yb ?_ | refine Yc ?_ | refine Yd ?_ | refine Ye ?_ | refine Yf ?_ | refine Yg ?_ | refine Yh ?_ | refine Yi ?_ | refine Yj ?_ | refine Yk ?_ | refine Yl ?_ | refine Ym ?_ | refine Yn ?_ | refine Yo ?_ | refine Yp (h := ?_) | refine Yq ?_ | refine Yr ?_ | refine Ys ?_ | refine Zr hc (hk := ?_) | refine Zd hc (hk := ?_) | (refine Zc (ht := fun hb => ?_) (hf := fun hb => ?_) <;> (try simp at hb)) | fail) | (first | refine Zw hc (hf := by first | exact h1 | exact h2 | exact h3 | exact h4) (hk := ?_) | refine Zq hc (hf := by first | exact h1 | exact h2 | exact h3 | exact h4) (hk := ?_) | refine Zo hc (hk := ?_) | refine Zu hc (hk := ?_) | refine Ze hc (hk := ?_) | refine Zn hc (hk := ?_) | fail))
  all_goals try contradiction
  all_goals (refine Zl hc (hr := ?_))
  all_goals (refine res_bool ?_; rw [Bool.eq_iff_iff]; first | (simp [*]; done) | (simp [*]; exact eq_comm) | (simp [*]; rw [@eq_comm _ u v]))
theorem checkScopes_ok (L : List Scp) (hL : L.length ≤ 9223372036854775807) (hn : ∀ j, (scpAt L j).2.1.length ≤ 9223372036854775807) : FnOk Tryz.prog 78 [scpSl L] (int (scpC L)) := by
  refine fnOk Tryz.func78 rfl (by kernel_rfl) Tryz.ntmps78 _ rfl (by simp) fun C hc => ?_
  unfold scpC
  repeat' (first | (first | refine Ya ?_ | refine Yb ?_ | refine Yc ?_ | refine Yd ?_ | refine Ye ?_ | refine Yf ?_ | refine Yg ?_ | refine Yh ?_ | refine Yi ?_ | refine Yj ?_ | refine Yk ?_ | refine Yl ?_ | refine Ym ?_ | refine Yn ?_ | refine Yo ?_ | refine Yp (h := ?_) | refine Yq ?_ | refine Yr ?_ | refine Ys ?_ | refine Zr hc (hk := ?_) | refine Zd hc (hk := ?_) | (refine Zc (ht := fun hb => ?_) (hf := fun hb => ?_) <;> (try simp at hb)) | fail) | (first | refine Zo hc (hk := ?_) | refine Zu hc (hk := ?_) | refine Ze hc (hk := ?_) | refine Zn hc (hk := ?_) | fail))
  · rw [if_pos (by omega)]
    (refine Zl hc (hr := ?_))
    simp
  · rw [if_neg (by omega)]
    refine ewp_loop (fun j : Nat => ⟨[(0, .d (scpSl L)), (10, .d (scpSl L)), (11, .d (int L.length)), (12, .d (int j))], []⟩) (fun j => j ≤ L.length ∧ scpGo L 0 = scpGo L j) (fun j => L.length - j) 0 (by simp) (run_keep [0, 10, 11, 12] [] (by simp; exact Gives.mk) (by simp; exact Gives.mk)) ?_
    rintro j ⟨hj, hA⟩
    have hst : scpGo L j = if j < L.length then (if scpE (scpAt L j) ≠ 0 then scpE (scpAt L j) else scpGo L (j + 1)) else 0 := by rw [scpGo]
    have h1 := ofKey_ok (scpAt L j).2.1 (hn j)
    generalize hE : scpE (scpAt L j) = e at hst
    unfold scpE at hE
    generalize ofK (scpAt L j).2.1 = y at h1 hE
    repeat' (first | (first | refine Ya ?_ | refine Yb ?_ | refine Yc ?_ | refine Yd ?_ | refine Ye ?_ | refine Yf ?_ | refine Yg ?_ | refine Yh ?_ | refine Yi ?_ | refine Yj ?_ | refine Yk ?_ | refine Yl ?_ | refine Ym ?_ | refine Yn ?_ | refine Yo ?_ | refine Yp (h := ?_) | refine Yq ?_ | refine Yr ?_ | refine Ys ?_ | refine Zr hc (hk := ?_) | refine Zd hc (hk := ?_) | (refine Zc (ht := fun hb => ?_) (hf := fun hb => ?_) <;> (try simp at hb)) | fail) | (first | refine Zw hc (hf := by exact h1) (hk := ?_) | refine Zq hc (hf := by exact h1) (hk := ?_) | refine Zo hc (hk := ?_) | refine Zu hc (hk := ?_) | refine Ze hc (hk := ?_) | refine Zn hc (hk := ?_) | fail))
    · rename_i g1
      rw [if_pos hb] at hE
      subst hE
      rw [if_pos g1, if_pos (by decide)] at hst
      rw [hA, hst]
      (refine Zl hc (hr := ?_))
      simp
    · rename_i g1 g2
      rw [if_neg (by omega)] at hE
      subst hE
      rw [if_pos g1, if_pos hb] at hst
      rw [hA, hst]
      (refine Zl hc (hr := ?_))
      simp
    · rename_i g1 g2
      rw [if_neg (by omega)] at hE
      subst hE
      rw [if_pos g1, if_neg (fun h => h hb)] at hst
      exact ⟨j + 1, ⟨by omega, by rw [hA, hst]⟩, by omega, run_back [0, 10, 11, 12] [] (by simp; exact Gives.mk) (by simp; exact Gives.mk) (by simp)⟩
    · rw [if_neg (by omega)] at hst
      rw [hA, hst]
      (refine Zl hc (hr := ?_))
      simp
end Go.Proofs.YtpmfmjgnhdfakaaGreatDoor
/-
  ADDRESS: InScope (program): a range over slices.Backward.
-/
set_option linter.unusedSimpArgs false
set_option linter.unusedVariables false
namespace Go.Proofs.YtpmfmjgnhdfakaaGreatDoor
open Go.RowKit Go.Shelf Go.Lw
attribute [local go_sem] Oper.semAt_some
set_option maxRecDepth 100000
set_option maxHeartbeats 4000000

/-- A contract on data, where the arguments are read in an elder world. -/
theorem fnOk_at {P : Program} {f : FuncId} {args : List D} {v : Value} {ok : Nat → Prop} {w W : World} {vs : Array Value} (h : FnOk P f args (.lit v)) (hok : ∀ b, ok b → b < w.heap.size) (hs : Std P w) (ha : ArgsRd w ok args vs) (hb : Below w.heap.size w W) :
    Calls P f vs W fun e W' => e = .returned v ∧ Below W.heap.size W W' := by
  have hg := hs.1
  refine (h.2 ok W vs (fun b hb' => Nat.lt_of_lt_of_le (hok b hb') hb.size) (hs.keep hb.size fun k hk => hb.block k (by omega)) ⟨ha.1, fun i d hi => ?_⟩).mono ?_
  · obtain ⟨u, h1, h2⟩ := ha.2 i d hi
    exact ⟨u, h1, h2.mono (fun b hb' => hb.block b (hok b hb')) fun _ h => h⟩
  · rintro e W' ⟨u, he, hbe, hr⟩
    cases hr
    exact ⟨he, hbe⟩
theorem keeps_below {W W' : World} (h : Below W.heap.size W W') : KeepsOthers W W' := ⟨h.size, fun k o hk _ => by
  rw [h.block k (Array.getElem?_eq_some_iff.1 hk).1]; exact hk⟩
/-- A block of cells lies on. -/
abbrev Lies3 (W : World) (B : Nat) (t : TypeId) (x : Scp) : Prop := W.heap[B]? = some (.cells #[.int .i64 x.1, .string (bs x.2.1), .bool x.2.2] t (0, 0))
theorem lies3_own (B : Nat) (t : TypeId) (x : Scp) : Own (fun (_ : Unit) W => Lies3 W B t x) := fun _ X Y row hs hg hrow => by
  have hlt := (Array.getElem?_eq_some_iff.1 hs).1
  show Y.heap[B]? = _
  rw [hg.block B hlt (fun e => ?_)]
  · exact hs
  · obtain ⟨o, ho, hc⟩ := hrow B e.symm
    rw [show X.heap[B]? = _ from hs] at ho
    cases ho
    cases hc
/-- Is a key in scopes: the last scope that covers it says. -/
def inAt (L : List Scp) (k : Bs) : Nat → Bool
  | 0 => false
  | i + 1 => if covP (scpAt L i) k = true then !(scpAt L i).2.2 else inAt L k i
theorem inAt_none {L : List Scp} {k : Bs} : ∀ {n : Nat}, (∀ j, j < n → covP (scpAt L j) k = false) → inAt L k n = false
  | 0, _ => rfl
  | n + 1, h => by rw [inAt, h n (by omega), if_neg (by decide)]; exact inAt_none fun j hj => h j (by omega)
theorem inAt_some {L : List Scp} {k : Bs} {i : Nat} (hi : covP (scpAt L i) k = true) : ∀ {n : Nat}, i < n → (∀ j, i < j → j < n → covP (scpAt L j) k = false) → inAt L k n = !(scpAt L i).2.2
  | n + 1, hn, h => by
    rcases Nat.lt_or_ge i n with h1 | h1
    · rw [inAt, h n h1 (by omega), if_neg (by decide)]
      exact inAt_some hi h1 fun j hj hj2 => h j hj (by omega)
    · obtain rfl : i = n := by omega
      rw [inAt, if_pos hi]
/-- The fault of scopes and a key. -/
def chkK (L : List Scp) (k : Bs) : Nat := if scpC L ≠ 0 then scpC L else (ofK k).2
def inC (L : List Scp) (k : Bs) : Bool × Nat := if chkK L k ≠ 0 then (false, chkK L k) else (inAt L k L.length, 0)
theorem scpGo_all (L : List Scp) (j : Nat) (h : scpGo L j = 0) : ∀ i, j ≤ i → i < L.length → scpE (scpAt L i) = 0 := by
  intro i hji hi
  rw [scpGo, if_pos (by omega)] at h
  by_cases h1 : scpE (scpAt L j) ≠ 0
  · rw [if_pos h1] at h; exact absurd h h1
  · rw [if_neg h1] at h
    rcases Nat.lt_or_ge j i with h2 | h2
    · exact scpGo_all L (j + 1) h i (by omega) hi
    · obtain rfl : i = j := by omega
      omega
termination_by L.length - j
theorem scp_right {L : List Scp} (h : scpC L = 0) : ∀ x ∈ L, (ofK x.2.1).2 = 0 := by
  intro x hx
  obtain ⟨i, hi, rfl⟩ := List.getElem_of_mem hx
  unfold scpC at h
  split at h
  · cases h
  · have := scpGo_all L 0 h i (by omega) hi
    simp only [scpAt, List.getElem?_eq_getElem hi, Option.getD_some] at this
    unfold scpE at this
    split at this
    · cases this
    · exact this
theorem hasScp_of {w : World} {ok : Nat → Prop} (hok : ∀ b, ok b → b < w.heap.size) {L : List Scp} {v : Value} (h : RdD w ok (scpSl L) v) : ∃ A cap b off, v = .slice A L.length cap ∧ HasScp w.heap.size w A cap b off L := by
  cases h with
  | sl _ _ A cap size b off g hc hm hA hl hg hd =>
    refine ⟨A, cap, b, off, rfl, hc, hm, fun h0 => ⟨(hA h0).1, hok _ (hA h0).2⟩, fun j hj => ?_⟩
    have h3 : size = 3 := (hl j hj).symm
    subst h3
    have e0 := hd j 0 _ hj rfl
    have e1 := hd j 1 _ hj rfl
    have e2 := hd j 2 _ hj rfl
    have k0 := hg j 0 hj (by omega)
    have k1 := hg j 1 hj (by omega)
    have k2 := hg j 2 hj (by omega)
    generalize g j 0 = g0 at e0 k0
    generalize g j 1 = g1 at e1 k1
    generalize g j 2 = g2 at e2 k2
    cases e0
    cases e1
    cases e2
    exact ⟨k0, k1, k2⟩
theorem checkKey_ok (L : List Scp) (k : Bs) (hL : L.length ≤ 9223372036854775807) (hn : ∀ j, (scpAt L j).2.1.length ≤ 9223372036854775807) (hk : k.length ≤ 9223372036854775807) : FnOk Tryz.prog 36 [scpSl L, str k] (int (chkK L k)) := by
  refine fnOk Tryz.func36 rfl (by kernel_rfl) Tryz.ntmps36 _ rfl (by simp) fun C hc => ?_
  have h1 := checkScopes_ok L hL hn
  have h2 := ofKey_ok k hk
  unfold chkK
  generalize scpC L = c at h1 ⊢
  generalize ofK k = y at h2 ⊢
  by_cases h0 : c = 0
  · subst h0
    rw [if_neg (fun h => h rfl)]
    repeat' (first | (first | refine Ya ?_ | refine Yb ?_ | refine Yc ?_ | refine Yd ?_ | refine Ye ?_ | refine Yf ?_ | refine Yg ?_ | refine Yh ?_ | refine Yi ?_ | refine Yj ?_ | refine Yk ?_ | refine Yl ?_ | refine Ym ?_ | refine Yn ?_ | refine Yo ?_ | refine Yp (h := ?_) | refine Yq ?_ | refine Yr ?_ | refine Ys ?_ | refine Zr hc (hk := ?_) | refine Zd hc (hk := ?_) | (refine Zc (ht := fun hb => ?_) (hf := fun hb => ?_) <;> (try simp at hb)) | fail) | (first | refine Zw hc (hf := by first | exact h1 | exact h2) (hk := ?_) | refine Zq hc (hf := by first | exact h1 | exact h2) (hk := ?_) | refine Zo hc (hk := ?_) | refine Zu hc (hk := ?_) | refine Ze hc (hk := ?_) | refine Zf hc (hk := ?_) | fail))
    all_goals try contradiction
    (refine Zl hc (hr := ?_))
    simp
  · rw [if_pos h0]
    repeat' (first | (first | refine Ya ?_ | refine Yb ?_ | refine Yc ?_ | refine Yd ?_ | refine Ye ?_ | refine Yf ?_ | refine Yg ?_ | refine Yh ?_ | refine Yi ?_ | refine Yj ?_ | refine Yk ?_ | refine Yl ?_ | refine Ym ?_ | refine Yn ?_ | refine Yo ?_ | refine Yp (h := ?_) | refine Yq ?_ | refine Yr ?_ | refine Ys ?_ | refine Zr hc (hk := ?_) | refine Zd hc (hk := ?_) | (refine Zc (ht := fun hb => ?_) (hf := fun hb => ?_) <;> (try simp at hb)) | fail) | (first | refine Zw hc (hf := by first | exact h1 | exact h2) (hk := ?_) | refine Zq hc (hf := by first | exact h1 | exact h2) (hk := ?_) | refine Zo hc (hk := ?_) | refine Zu hc (hk := ?_) | refine Ze hc (hk := ?_) | refine Zf hc (hk := ?_) | fail))
    all_goals try contradiction
    (refine Zl hc (hr := ?_))
    simp
theorem hasScp_up {n m : Nat} {W : World} {A : Option Addr} {cap b off : Nat} {L : List Scp} (h : HasScp n W A cap b off L) (hm : n ≤ m) : HasScp m W A cap b off L :=
  ⟨h.1, h.2.1, fun e => ⟨(h.2.2.1 e).1, Nat.lt_of_lt_of_le (h.2.2.1 e).2 hm⟩, h.2.2.2⟩
theorem rd_pair {W : World} {ok : Nat → Prop} (a b : Value) : RdD W ok (.tup [.lit a, .lit b]) (.tuple #[a, b]) := by
  refine .tup _ _ (fun i => if i = 0 then a else b) rfl (fun i hi => ?_) fun i d hd => ?_
  · match i, hi with
    | 0, _ => rfl
    | 1, _ => rfl
  · match i, hd with
    | 0, hd => cases hd; exact .lit a
    | 1, hd => cases hd; exact .lit b
theorem covers_at {w W : World} (hstd : Std Tryz.prog w) (hb : Below w.heap.size w W) (x : Scp) (k : Bs) (hx : (ofK x.2.1).2 = 0) (hk : (ofK k).2 = 0) :
    Calls Tryz.prog 38 #[scpV x, .string (bs k)] W fun e W' => e = .returned (.bool (covP x k)) ∧ Below W.heap.size W W' := by
  refine fnOk_at (covers_ok x k hx hk) (ok := fun _ => False) (fun _ h => h.elim) hstd ⟨rfl, fun i d hi => ?_⟩ hb
  match i, hi with
  | 0, hi =>
    cases hi
    refine ⟨_, rfl, .agg _ _ (fun i => if i = 0 then .int .i64 x.1 else if i = 1 then .string (bs x.2.1) else .bool x.2.2) rfl (fun i hi => ?_) fun i d hd => ?_⟩
    · match i, hi with
      | 0, _ => rfl
      | 1, _ => rfl
      | 2, _ => rfl
    · match i, hd with
      | 0, hd => cases hd; exact .lit _
      | 1, hd => cases hd; exact .lit _
      | 2, hd => cases hd; exact .lit _
  | 1, hi =>
    cases hi
    exact ⟨_, rfl, .lit _⟩
theorem inScope_res {W : World} {n : Nat} {a b : Value} {tmps : Array Value} (b1 : Boxed W (n + 1) 4 a) (b2 : Boxed W (n + 1 + 1) 29 b) (h4 : tmps[4]?.getD undef = .pointer (some ⟨n + 1, 0, none⟩)) (h5 : tmps[5]?.getD undef = .pointer (some ⟨n + 1 + 1, 0, none⟩)) :
    (results Tryz.f10 tmps).run Tryz.prog W = .ok (.tuple #[a, b]) W := by
  have c1 := b1.cell
  have c2 := b2.cell
  simp [results, Tryz.f10, go_sem, h4, h5, c1, c2]
theorem inScope_ok (L : List Scp) (k : Bs) (hL : L.length ≤ 9223372036854775807) (hn : ∀ j, (scpAt L j).2.1.length ≤ 9223372036854775807) (hk : k.length ≤ 9223372036854775807) : FnOk Tryz.prog 10 [scpSl L, str k] (.tup [tru (inC L k).1, int (inC L k).2]) := by
  refine ⟨by kernel_rfl, fun ok w vs hok hstd ha => ?_⟩
  obtain ⟨sv, hs1, hs2⟩ := ha.2 0 _ rfl
  obtain ⟨kv, hk1, hk2⟩ := ha.2 1 _ rfl
  cases hk2
  obtain rfl : vs = #[sv, .string (bs k)] := by
    apply Array.ext
    · exact ha.1
    · intro i h1 h2
      have h3 : vs.size = 2 := ha.1
      match i, h1 with
      | 0, _ => exact (Array.getElem?_eq_some_iff.1 hs1).2
      | 1, _ => exact (Array.getElem?_eq_some_iff.1 hk1).2
  obtain ⟨A, cap, b, off, rfl, hS⟩ := hasScp_of hok hs2
  have hCK := fun (W : World) (hb : Below w.heap.size w W) => fnOk_at (checkKey_ok L k hL hn hk) hok hstd ha hb
  clear hs1 hs2 hk1
  refine (callsIn_wide (n := 6)).1 ?_
  refine callsIn_of_wp_marks Tryz.func10 rfl trivial ?_ rfl
  simp only [Tryz.ntmps10, List.size_toArray, List.length_cons, List.length_nil, Nat.reduceAdd, Nat.reduceSub, Array.replicate_succ, Array.replicate_zero, List.push_toArray, List.append_toArray, List.nil_append, List.cons_append]
  have hB3 : Below w.heap.size w (((w.alloc (.cells #[.string (bs k)] 9)).alloc (.cells #[.bool false] 4)).alloc (.cells #[.int .i64 0] 29)) := (((Below.refl _ w).alloc (Nat.le_refl _) _).alloc (by simp) _).alloc (by simp; omega) _
  have hCK2 := hCK _ hB3
  have hF : Aside (∀ w1 : World, Below (((w.alloc (.cells #[.string (bs k)] 9)).alloc (.cells #[.bool false] 4)).alloc (.cells #[.int .i64 0] 29)).heap.size (((w.alloc (.cells #[.string (bs k)] 9)).alloc (.cells #[.bool false] 4)).alloc (.cells #[.int .i64 0] 29)) w1 →
      Boxed w1 w.heap.size 9 (.string (bs k)) ∧ Boxed w1 (w.heap.size + 1) 4 (.bool false) ∧ Boxed w1 (w.heap.size + 1 + 1) 29 (.int .i64 0) ∧ Below w.heap.size w w1 ∧ w.heap.size + 3 ≤ w1.heap.size) := fun w1 hb => by
    have b0 := ((Boxed.new w 9 (.string (bs k))).alloc (.cells #[.bool false] 4)).alloc (.cells #[.int .i64 0] 29)
    have b1 := (Boxed.new (w.alloc (.cells #[.string (bs k)] 9)) 4 (.bool false)).alloc (.cells #[.int .i64 0] 29)
    have b2 := Boxed.new ((w.alloc (.cells #[.string (bs k)] 9)).alloc (.cells #[.bool false] 4)) 29 (.int .i64 0)
    simp only [World.size_alloc] at b1 b2
    have hs := hb.size
    simp only [World.size_alloc] at hs
    exact ⟨(hb.block _ b0.lt).trans b0, (hb.block _ b1.lt).trans b1, (hb.block _ b2.lt).trans b2, hB3.trans (hb.mono (by simp; omega)), by omega⟩
  by_cases h0 : chkK L k = 0
  rotate_left
  · have hin : inC L k = (false, chkK L k) := by unfold inC; rw [if_pos h0]
    rw [hin]
    have hz : ((chkK L k : Int) != 0) = true := bne_iff_ne.2 (by omega)
    gi_wp2_with (first
      | (refine ⟨trivial, ?_⟩; gi_at_call 36; refine (callsIn_wide.2 hCK2).mono ?_; rintro e w1 ⟨rfl, hb1⟩; obtain ⟨x0, x1, x2, x3, x4⟩ := hF.out w1 hb1; clear hb1; have c0 := x0.cell; have c1 := x1.cell; have f1 := x1.frozen; have c2 := x2.cell; have f2 := x2.frozen)
      | (refine ⟨trivial, ?_⟩; gi_at_call 37; refine (back_in Fence.wide _ trivial rfl _ _ _ _).mono ?_; rintro e w' ⟨rfl, rfl⟩))
    refine ⟨_, inScope_res (n := w.heap.size) ((x1.set _).other (by omega) _) ((x2.other (by omega) _).set _) rfl rfl, _, rfl, (x3.setCell (p := ⟨w.heap.size + 1, 0, none⟩) (by simp) _).setCell (p := ⟨w.heap.size + 1 + 1, 0, none⟩) (by simp; omega) _, rd_pair _ _⟩
  · have hin : inC L k = (inAt L k L.length, 0) := by unfold inC; rw [if_neg (fun e => e h0)]
    rw [hin]
    rw [h0] at hCK2
    have hsc : scpC L = 0 := Classical.byContradiction fun e => by
      unfold chkK at h0
      rw [if_pos e] at h0
      exact e h0
    have hk0 : (ofK k).2 = 0 := by
      unfold chkK at h0
      rw [if_neg (fun e => e hsc)] at h0
      exact h0
    gi_wp2_with (first
      | (refine ⟨trivial, ?_⟩; gi_at_call 36; refine (callsIn_wide.2 hCK2).mono ?_; rintro e w1 ⟨rfl, hb1⟩; obtain ⟨x0, x1, x2, x3, x4⟩ := hF.out w1 hb1; clear hb1; have c0 := x0.cell; have c1 := x1.cell; have f1 := x1.frozen; have c2 := x2.cell; have f2 := x2.frozen)
      | (refine ⟨trivial, ?_⟩; gi_at_call 37; refine (back_in Fence.wide _ trivial rfl _ _ _ _).mono ?_; rintro e w' ⟨rfl, rfl⟩))
    have hright := scp_right hsc
    have bS := Boxed.new w1 53 (.slice A L.length cap)
    have y0 := x0.alloc (.cells #[.slice A L.length cap] 53)
    have y1 := x1.alloc (.cells #[.slice A L.length cap] 53)
    have y2 := x2.alloc (.cells #[.slice A L.length cap] 53)
    have hB0 : Below w.heap.size w (w1.alloc (.cells #[.slice A L.length cap] 53)) := x3.alloc (by omega) _
    have hsz : (w1.alloc (.cells #[.slice A L.length cap] 53)).heap.size = w1.heap.size + 1 := by simp
    clear c0 c1 f1 c2 f2 x0 x1 x2 hF hCK2 hCK ha
    obtain ⟨W0, hW0⟩ : ∃ W0, w1.alloc (.cells #[.slice A L.length cap] 53) = W0 := ⟨_, rfl⟩
    rw [hW0] at bS y0 y1 y2 hB0 hsz ⊢
    clear hW0
    refine wpIn_rangeFunc_ownH (F := Fence.wide) (n := 6) rfl (by decide) (gf := 79) (lb := #[.pointer (some ⟨w1.heap.size, 0, none⟩)]) rfl trivial (enters_of Tryz.func79 (by kernel_rfl) rfl)
      (back_stops Fence.wide (6 - 1) trivial rfl (by decide) w1.heap.size W0.heap.size b off cap A L (fun x => (ofK x.2.1).2 = 0) hright W0 (by omega) (Nat.le_refl _) bS.cell (hasScp_up (hS.below hB0) (by omega))) belowK_t (belowK_b (Nat.le_refl _)) (Below.refl _ _) (fun _ => rfl)
      (fun pre W => (((∀ p ∈ pre, covP p.1.2 k = false) ∧ Boxed W (w.heap.size + 1) 4 (.bool false) ∧ Boxed W (w.heap.size + 1 + 1) 29 (.int .i64 0)) ∧ Boxed W w.heap.size 9 (.string (bs k))) ∧ Below w.heap.size w W ∧ Below W0.heap.size W0 W)
      (fun c pre W => ((c = .ret ∧ ∃ ini last, pre = ini ++ [last] ∧ (∀ p ∈ ini, covP p.1.2 k = false) ∧ covP last.1.2 k = true ∧ Boxed W (w.heap.size + 1) 4 (.bool (!last.1.2.2.2))) ∧ Boxed W (w.heap.size + 1 + 1) 29 (.int .i64 0)) ∧ Below w.heap.size w W)
      (OwnFrom.and (Own.from (fun s X Y row hs hg hr => ⟨⟨hs.1.1, boxed_own (w.heap.size + 1) _ (fun (_ : Unit) => Value.bool false) () X Y row hs.1.2.1 hg hr, boxed_own (w.heap.size + 1 + 1) _ (fun (_ : Unit) => Value.int .i64 0) () X Y row hs.1.2.2 hg hr⟩, boxed_own w.heap.size _ (fun (_ : Unit) => Value.string (bs k)) () X Y row hs.2 hg hr⟩) _) (OwnFrom.and (ownFrom_below (Nat.le_refl _) (by omega)) (ownFrom_below (Nat.le_refl _) (Nat.le_refl _))))
      (fun c => OwnFrom.and (Own.from (fun s X Y row hs hg hr => by
        obtain ⟨⟨hc, ini, last, e1, e2, e3, e4⟩, e5⟩ := hs
        exact ⟨⟨hc, ini, last, e1, e2, e3, boxed_own (w.heap.size + 1) _ (fun (_ : Unit) => Value.bool (!last.1.2.2.2)) () X Y row e4 hg hr⟩, boxed_own (w.heap.size + 1 + 1) _ (fun (_ : Unit) => Value.int .i64 0) () X Y row e5 hg hr⟩) _) (ownFrom_below (Nat.le_refl _) (by omega)))
      ⟨⟨⟨by simp, y1, y2⟩, y0⟩, hB0, Below.refl _ _⟩
      (fun x a' W => ∃ Bx, W0.heap.size ≤ Bx ∧ Lies3 W Bx 52 x.1.2 ∧ a' = { tmps := #[.slice A L.length cap, .string (bs k), undef, .pointer (some ⟨w.heap.size, 0, none⟩), .pointer (some ⟨w.heap.size + 1, 0, none⟩), .pointer (some ⟨w.heap.size + 1 + 1, 0, none⟩), .int .i64 ((0 : Nat) : Int), undef, .pointer (some ⟨Bx, 0, none⟩), .slice A L.length cap, .string (bs k), .int .i64 ((0 : Nat) : Int), .int .i64 ((0 : Nat) : Int), .bool false, undef, .slice A L.length cap, .func (.func 79) #[] #[.pointer (some ⟨w1.heap.size, 0, none⟩)], .int .i64 (x.1.1 : Int), scpV x.1.2, undef, undef, undef, undef, undef, undef], defers := [] })
      (fun x a' _ X Y row hs hg hr => by
        obtain ⟨Bx, e1, e2, e3⟩ := hs
        exact ⟨Bx, e1, lies3_own Bx _ x.1.2 () X Y row e2 hg (fun r e => (hr r e).2), e3⟩)
      ?assign ?body ?done ?stop
    case assign =>
      rintro l pre x W K ⟨⟨⟨hp, b1, b2⟩, b0⟩, hB, hB9⟩ hK
      have hs9 := hB9.size
      gi_wp2
      exact hK _ _ ((KeepsOthers.alloc _ _).from _) ((Below.refl _ W).alloc hs9 _) ⟨⟨⟨hp, b1.alloc _, b2.alloc _⟩, b0.alloc _⟩, hB.alloc hB.size _, hB9.alloc hs9 _⟩ ⟨W.heap.size, hs9, World.alloc_heap_new W _, rfl⟩
    case body =>
      rintro l pre x a' W hl ⟨r, hr⟩ ⟨⟨⟨hp, b1, b2⟩, b0⟩, hB, hB9⟩ ⟨Bx, hBx, bX, rfl⟩ hlt
      have c0 := b0.cell
      have g0 : W.cell? ⟨Bx, 0, none⟩ = some (.int .i64 x.1.2.1) := by simp [World.cell?, show W.heap[Bx]? = _ from bX]
      have g1 : W.cell? ⟨Bx, 1, none⟩ = some (.string (bs x.1.2.2.1)) := by simp [World.cell?, show W.heap[Bx]? = _ from bX]
      have g2 : W.cell? ⟨Bx, 2, none⟩ = some (.bool x.1.2.2.2) := by simp [World.cell?, show W.heap[Bx]? = _ from bX]
      have hCv := covers_at hstd hB x.1.2 k x.2 hk0
      cases hcv : covP x.1.2 k
      · rw [hcv] at hCv
        gi_wp2_with (refine ⟨trivial, ?_⟩; gi_at_call 38; refine (CallsIn.inRound l (callsIn_wide.2 hCv)).mono ?_; rintro e w2 ⟨rfl, hb2⟩)
        have d0 := (hb2.block _ b0.lt).trans b0
        have d1 := (hb2.block _ b1.lt).trans b1
        have d2 := (hb2.block _ b2.lt).trans b2
        exact ⟨(keeps_below hb2).from _, hb2.mono hB9.size, ⟨⟨fun p hp' => (List.mem_append.1 hp').elim (hp p) (fun e => by simp at e; subst e; exact hcv), d1, d2⟩, d0⟩, hB.trans (hb2.mono hB.size), hB9.trans (hb2.mono hB9.size)⟩
      · rw [hcv] at hCv
        have hF2 : Aside (∀ w2 : World, Below W.heap.size W w2 → Boxed w2 (w.heap.size + 1) 4 (.bool false) ∧ Boxed w2 (w.heap.size + 1 + 1) 29 (.int .i64 0) ∧ w2.cell? ⟨Bx, 2, none⟩ = some (.bool x.1.2.2.2)) := fun w2 hb =>
          ⟨(hb.block _ b1.lt).trans b1, (hb.block _ b2.lt).trans b2, (hb.cell (p := ⟨Bx, 2, none⟩) (Array.getElem?_eq_some_iff.1 bX).1).trans g2⟩
        gi_wp2_with (refine ⟨trivial, ?_⟩; gi_at_call 38; refine (CallsIn.inRound l (callsIn_wide.2 hCv)).mono ?_; rintro e w2 ⟨rfl, hb2⟩; obtain ⟨d1, d2, d3⟩ := hF2.out w2 hb2; have c1 := d1.cell; have f1 := d1.frozen; have c2 := d2.cell; have f2 := d2.frozen)
        have hB2 := hB.trans (hb2.mono hB.size)
        exact ⟨((keeps_below hb2).trans ((KeepsOthers.setCell _ _ _).trans (KeepsOthers.setCell _ _ _))).from _, ⟨⟨rfl, pre, x, rfl, hp, hcv, (d1.set _).other (by omega) _⟩, (d2.other (by omega) _).set _⟩, (hB2.setCell (p := ⟨w.heap.size + 1, 0, none⟩) (by simp) _).setCell (p := ⟨w.heap.size + 1 + 1, 0, none⟩) (by simp; omega) _⟩
    case done =>
      rintro D ys W hD hys ⟨⟨⟨hp, b1, b2⟩, b0⟩, hB, hB9⟩ hK
      have c1 := b1.cell
      have f1 := b1.frozen
      have c2 := b2.cell
      have f2 := b2.frozen
      have hno : inAt L k L.length = false := inAt_none fun j hj => by
        have hm : (j, scpAt L j) ∈ upB L L.length := by
          unfold upB
          refine List.mem_map.2 ⟨L.length - 1 - j, List.mem_range.2 (by omega), ?_⟩
          rw [show L.length - 1 - (L.length - 1 - j) = j by omega]
        rw [← hys] at hm
        obtain ⟨y, hy, he⟩ := List.mem_map.1 hm
        have := hp y hy
        rw [he] at this
        exact this
      gi_wp2
      have hK' := ((KeepsOthers.setCell W ⟨w.heap.size + 1, 0, none⟩ (.bool false)).trans (KeepsOthers.setCell _ ⟨w.heap.size + 1 + 1, 0, none⟩ (.int .i64 0))).same D _ hK rfl
      refine ⟨by simp, .inl ⟨_, _, rfl, run_takeDeferred hK', ?_⟩⟩
      have d1 := (b1.set (.bool false)).other (B' := w.heap.size + 1 + 1) (by omega) (.int .i64 0)
      have d2 := (b2.other (B' := w.heap.size + 1) (by omega) (.bool false)).set (.int .i64 0)
      have hg := grownBy_putObj' ((W.setCell ⟨w.heap.size + 1, 0, none⟩ (.bool false)).setCell ⟨w.heap.size + 1 + 1, 0, none⟩ (.int .i64 0)) D (.deferred none)
      have hrow : ∀ r, some D = some r → ∃ o : Obj, ((W.setCell ⟨w.heap.size + 1, 0, none⟩ (.bool false)).setCell ⟨w.heap.size + 1 + 1, 0, none⟩ (.int .i64 0)).heap[r]? = some o ∧ o.isCells = false := fun r e => by cases e; exact ⟨_, hK', rfl⟩
      exact ⟨_, inScope_res (n := w.heap.size) (boxed_own _ _ (fun (_ : Unit) => Value.bool false) () _ _ _ d1 hg hrow) (boxed_own _ _ (fun (_ : Unit) => Value.int .i64 0) () _ _ _ d2 hg hrow) rfl rfl, _, rfl,
        ((hB.setCell (p := ⟨w.heap.size + 1, 0, none⟩) (by simp) _).setCell (p := ⟨w.heap.size + 1 + 1, 0, none⟩) (by simp; omega) _).trans (belowK_b (w := w) (Nat.le_refl _) _ D _ _ (by omega) hK' rfl rfl), rd_pair _ _⟩
    case stop =>
      rintro D c pre W hD ⟨m, hm, hpre⟩ ⟨⟨⟨rfl, ini, last, e1, e2, e3, b1⟩, b2⟩, hB⟩ hK
      subst e1
      have hyes : inAt L k L.length = !last.1.2.2.2 := by
        cases m with
        | zero => simp [upB] at hpre
        | succ m =>
          rw [upB_succ, List.map_append] at hpre
          obtain ⟨h1, h2⟩ := List.append_inj' hpre rfl
          have h3 : last.1 = (L.length - 1 - m, scpAt L (L.length - 1 - m)) := by simpa using h2
          rw [h3] at e3 ⊢
          refine inAt_some e3 (by omega) fun j hj hj2 => ?_
          have hm2 : (j, scpAt L j) ∈ upB L m := by
            unfold upB
            refine List.mem_map.2 ⟨L.length - 1 - j, List.mem_range.2 (by omega), ?_⟩
            rw [show L.length - 1 - (L.length - 1 - j) = j by omega]
          rw [← h1] at hm2
          obtain ⟨y, hy, he⟩ := List.mem_map.1 hm2
          have := e2 y hy
          rw [he] at this
          exact this
      gi_wp2
      refine ⟨by simp, .inl ⟨_, _, rfl, run_takeDeferred hK, ?_⟩⟩
      have hg := grownBy_putObj' W D (.deferred none)
      have hrow : ∀ r, some D = some r → ∃ o : Obj, W.heap[r]? = some o ∧ o.isCells = false := fun r e => by cases e; exact ⟨_, hK, rfl⟩
      exact ⟨_, inScope_res (n := w.heap.size) (boxed_own _ _ (fun (_ : Unit) => Value.bool (!last.1.2.2.2)) () _ _ _ b1 hg hrow) (boxed_own _ _ (fun (_ : Unit) => Value.int .i64 0) () _ _ _ b2 hg hrow) rfl rfl, _, rfl,
        hB.trans (belowK_b (w := w) (Nat.le_refl _) _ D _ _ (by omega) hK rfl rfl), rd_pair _ _⟩
end Go.Proofs.YtpmfmjgnhdfakaaGreatDoor
/-
  ADDRESS: Covers, InScope on both sides; the walks of AddressScopesMatchSpec and AddressScopesLast. (WITH run_drawN.)
-/
set_option linter.unusedSimpArgs false
set_option linter.unusedVariables false
namespace Go.Proofs.YtpmfmjgnhdfakaaGreatDoor
open Go.Lw Go.RowKit Go.ChangeShapes Go.WideShapes Go.ChangeAt
set_option maxRecDepth 100000
set_option maxHeartbeats 2000000

def ScpFits (x : Scp) : Prop := inR .i64 x.1 ∧ x.2.1.length ≤ reachBytes
def ScpsFit (L : List Scp) : Prop := (L.length ≤ maxLen ∧ ∀ x ∈ L, ScpFits x) ∧ L.length * 32 ≤ reachBytes
/-- Covers. -/
def covC (x : Scp) (k : Bs) : Bool × Nat := if chkK [x] k ≠ 0 then (false, chkK [x] k) else (covP x k, 0)
theorem scpC_one (x : Scp) : scpC [x] = scpE x := by
  have h1 : scpGo [x] 1 = 0 := by rw [scpGo, if_neg (by simp)]
  have h0 : scpGo [x] 0 = if scpE x ≠ 0 then scpE x else scpGo [x] 1 := by
    rw [scpGo, if_pos (by simp)]
    rfl
  unfold scpC
  rw [if_neg (by simp), h0, h1]
  split <;> omega
theorem chk_yes {L : List Scp} {k : Bs} (h : scpC L = 0) : chkK L k = (ofK k).2 := by unfold chkK; rw [if_neg (fun e => e h)]
end Go.Proofs.YtpmfmjgnhdfakaaGreatDoor
