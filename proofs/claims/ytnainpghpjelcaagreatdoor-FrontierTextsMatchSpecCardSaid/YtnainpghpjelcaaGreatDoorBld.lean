/-
  strings.Builder: what its methods do, on list-level states.
-/
import Derived.Test.YtnainpghpjelcaaGreatDoorLibS
import Derived.Lib.Builder
import Derived.Lib.UnsafeStr
import Derived.Lib.Strings
import Derived.Lib.Slices
import Derived.Lib.Walk
import Derived.Shelf.RegionOpenPlain
import Derived.Laws.Externs
import Derived.StillTailTactics
set_option linter.unusedSimpArgs false
set_option linter.unusedVariables false
namespace Go.Proofs.YtnainpghpjelcaaGreatDoor
open Go.Lw Go.RowKit Go.Shelf
set_option maxHeartbeats 1000000
set_option maxRecDepth 100000

theorem infoBld : ∃ j, Tryz.prog.info? 124 = some j ∧ j.size = 2 := by
  have h : (Tryz.prog.info? 124).map (·.size) = some 2 := by kernel_rfl
  exact Option.map_eq_some_iff.1 h
theorem copyCheck_used (b : Nat) (w : World) (h0 : w.cell? ⟨b, 0, none⟩ = some (.pointer (some ⟨b, 0, none⟩))) :
    Calls Tryz.prog 145 #[.pointer (some ⟨b, 0, none⟩)] w fun e w' => e = .returned (.tuple #[]) ∧ w' = w := by
  obtain ⟨j, hj, _⟩ := infoBld
  go_enter Tryz.func145, Tryz.ntmps145
  go_wp2
  rw [Lib.run_neq_ptr_same w _ Tryz.underlying121 hj]
  go_wp2
  go_end0
  exact ⟨rfl, rfl⟩
theorem copyCheck_fresh (b : Nat) (w : World) (h0 : w.cell? ⟨b, 0, none⟩ = some (.pointer none)) (hsh : w.shape? b = some (124, 2)) (hfz : w.frozen? ⟨b, 0, none⟩ = false) :
    Calls Tryz.prog 145 #[.pointer (some ⟨b, 0, none⟩)] w fun e w' => e = .returned (.tuple #[]) ∧ w' = w.setCell ⟨b, 0, none⟩ (.pointer (some ⟨b, 0, none⟩)) := by
  obtain ⟨j, hj, hjs⟩ := infoBld
  go_enter Tryz.func145, Tryz.ntmps145
  go_wp2
  rw [Lib.run_to_unsafe w ⟨b, 0, none⟩ Tryz.underlying121 Tryz.underlying216 hj (by rw [hjs]; decide) hsh (Nat.zero_lt_succ 1)]
  simp only [Result.andThen]
  rw [Oper.upon_value]
  go_wp2
  rw [run_callFunc_extern Tryz.func196 (by kernel_rfl) (by kernel_rfl) (by kernel_rfl) (e := Extern.AbiNoEscape.same) (by kernel_rfl)]
  rw [Lib.run_noEscape]
  simp only [Result.andThen]
  rw [Oper.upon_value]
  go_wp2
  rw [Lib.run_from_unsafe w ⟨b, 0, none⟩ Tryz.underlying216 Tryz.underlying121 hj hsh (by kernel_rfl)]
  simp only [Result.andThen]
  rw [Oper.upon_value]
  go_wp2
  go_end0
  exact ⟨rfl, rfl⟩
/-- What a builder's first cell holds: its own address, or nil. -/
def addrV (u : Bool) (id : Nat) : V := bif u then .bp id 0 else .d (.lit (.pointer none))
@[simp] theorem says_addrV (j : Nat) (u : Bool) (id : Nat) : says j (addrV u id) = (u && id == j) := by cases u <;> simp [addrV, says]
@[simp] theorem renV_addrV (σ : List (Nat × Nat)) (u : Bool) (id : Nat) : renV σ (addrV u id) = addrV u (ren σ id) := by cases u <;> simp [addrV]
@[simp] theorem idsV_addrV (q : Nat → Bool) (u : Bool) (id : Nat) : idsV q (addrV u id) = (!u || q id) := by cases u <;> simp [addrV]
@[simp] theorem hushV_addrV (j : Nat) (u : Bool) (id : Nat) : hushV j (addrV u id) = if (u && id == j) = true then .any else addrV u id := by
  unfold hushV
  rw [says_addrV]
  cases (u && id == j) <;> rfl
@[simp] theorem oneV_addrV (u : Bool) (id : Nat) : oneV (addrV u id) = true := by cases u <;> rfl

theorem copyCheck_ok (u : Bool) (x : V) (ob : O) : FnMem Tryz.prog 145 [.bp 100000 0] [(100000, .box 124 [addrV u 100000, x]), (100001, ob)] (.d (.tup [])) [(100000, .box 124 [.bp 100000 0, x]), (100001, ob)] := by
  refine ⟨by kernel_rfl, fun ok h w vs hok hstd hlow hlies hargs => ?_⟩
  obtain ⟨b, cs, hb, hbk, hcs, hcell⟩ := hlies.obj 100000 _ rfl
  obtain ⟨hblt, hbok⟩ := hlies.blk 100000 _ b rfl hb
  have hob := hlies.obj 100001 ob rfl
  have hap : ∀ b', (h 100001).blk = some b' → b' ≠ b := fun b' h1 e => by
    subst e
    exact hlies.apart 100000 100001 _ _ _ rfl rfl (by decide) hb h1
  obtain ⟨hvs, hva⟩ := hargs
  obtain ⟨v0, hv0, hr0⟩ := hva 0 _ rfl
  obtain rfl : vs = #[.pointer (some ⟨b, 0, none⟩)] := by
    cases hr0 with
    | bp _ _ b' hb' =>
      obtain rfl : b = b' := Option.some.inj (hb.symm.trans hb')
      obtain ⟨vs⟩ := vs
      match vs, hvs, hv0 with
      | [_], _, hv0 => cases hv0; rfl
  obtain ⟨c0, hc0, hcr0⟩ := hcell 0 _ rfl
  obtain ⟨c1, hc1, hcr1⟩ := hcell 1 _ rfl
  obtain rfl : cs = #[c0, c1] := by
    obtain ⟨cs⟩ := cs
    match cs, hcs, hc0, hc1 with
    | [_, _], _, hc0, hc1 => cases hc0; cases hc1; rfl
  have hcell0 : w.cell? ⟨b, 0, none⟩ = some c0 := by simp [World.cell?, hbk]
  have same : Lw.Left [(100000, .box 124 [addrV u 100000, x]), (100001, ob)] [(100000, .box 124 [.bp 100000 0, x]), (100001, ob)] (.d (.tup [])) ok h w ok h (w.setCell ⟨b, 0, none⟩ (.pointer (some ⟨b, 0, none⟩))) (.tuple #[]) := by
    have hs : (w.setCell ⟨b, 0, none⟩ (.pointer (some ⟨b, 0, none⟩))).heap.size = w.heap.size := by simp [World.setCell]
    have hne : ∀ k, k ≠ b → (w.setCell ⟨b, 0, none⟩ (.pointer (some ⟨b, 0, none⟩))).heap[k]? = w.heap[k]? := fun k hk => by
      simp only [World.setCell, Array.getElem?_modify, if_neg (fun e : b = k => hk e.symm)]
    have hat : (w.setCell ⟨b, 0, none⟩ (.pointer (some ⟨b, 0, none⟩))).heap[b]? = some (.cells #[.pointer (some ⟨b, 0, none⟩), c1] 124 (0, 0)) := by
      simp [World.setCell, Array.getElem?_modify, hbk]
    have hokb : ∀ k, ok k → (w.setCell ⟨b, 0, none⟩ (.pointer (some ⟨b, 0, none⟩))).heap[k]? = w.heap[k]? := fun k hk => hne k fun e => hbok (e ▸ hk)
    have two : ∀ id o, Lw.look id [(100000, O.box 124 [.bp 100000 0, x]), (100001, ob)] = some o → (id = 100000 ∧ o = .box 124 [.bp 100000 0, x]) ∨ (id = 100001 ∧ o = ob) := fun id o hl => by
      simp only [Lw.look] at hl
      split at hl
      · rename_i e; cases hl; exact .inl ⟨e.symm, rfl⟩
      · split at hl
        · rename_i e; cases hl; exact .inr ⟨e.symm, rfl⟩
        · cases hl
    have old : ∀ id o, Lw.look id [(100000, O.box 124 [.bp 100000 0, x]), (100001, ob)] = some o → ∃ o', Lw.look id [(100000, O.box 124 [addrV u 100000, x]), (100001, ob)] = some o' := fun id o hl => by
      rcases two id o hl with ⟨rfl, _⟩ | ⟨rfl, _⟩
      · exact ⟨_, rfl⟩
      · exact ⟨_, rfl⟩
    refine ⟨rfl, rfl, rfl, by omega, fun k hk hnl => hne k fun e => hnl ⟨100000, _, rfl, e ▸ hb⟩, fun k hk => hk, fun k hk => ⟨by have := hok k hk; omega, .inl hk⟩, ⟨fun id o hl => ?_, fun id o b' hl hb' => ?_, fun id id' o o' b' hl hl' hne' => ?_⟩, fun id o b' hl hb' => ?_, fun _ _ => rfl, .d _ _ (.tup [] #[] (fun _ => undef) rfl (fun i hi => by simp at hi) (fun i d hd => by simp at hd))⟩
    · rcases two id o hl with ⟨rfl, rfl⟩ | ⟨rfl, rfl⟩
      · refine ⟨b, _, hb, hat, rfl, fun k y hk => ?_⟩
        match k, hk with
        | 0, hk => cases hk; exact ⟨_, rfl, .bp 100000 0 b hb⟩
        | 1, hk => cases hk; exact ⟨c1, rfl, hcr1.mono hokb fun _ hb => hb⟩
      · exact hob.mono hokb (fun _ hb => hb) fun b' hb' => hne b' (hap b' hb')
    · obtain ⟨o', ho'⟩ := old id o hl
      obtain ⟨h1, h2⟩ := hlies.blk id o' b' ho' hb'
      exact ⟨by omega, h2⟩
    · obtain ⟨o1, ho1⟩ := old id o hl
      obtain ⟨o2, ho2⟩ := old id' o' hl'
      exact hlies.apart id id' o1 o2 b' ho1 ho2 hne'
    · obtain ⟨o1, ho1⟩ := old id o hl
      exact .inr ⟨o1, ho1, hb'⟩
  cases u with
  | false =>
    have e0 : c0 = .pointer none := lit_of hcr0
    subst e0
    refine (copyCheck_fresh b w hcell0 (by simp [World.shape?, hbk]) (by simp [World.frozen?, hbk])).mono ?_
    rintro e w' ⟨rfl, rfl⟩
    exact ⟨_, ok, h, rfl, same⟩
  | true =>
    have e0 : c0 = .pointer (some ⟨b, 0, none⟩) := by
      cases hcr0 with
      | bp _ _ b' hb' => obtain rfl : b = b' := Option.some.inj (hb.symm.trans hb'); rfl
    subst e0
    have hw : w.setCell ⟨b, 0, none⟩ (.pointer (some ⟨b, 0, none⟩)) = w := by
      have hh : (w.setCell ⟨b, 0, none⟩ (.pointer (some ⟨b, 0, none⟩))).heap = w.heap := by
        apply Array.ext_getElem?
        intro k
        simp only [World.setCell, Array.getElem?_modify]
        split
        · rename_i e; subst e; rw [hbk]; rfl
        · rfl
      show { w with heap := (w.setCell ⟨b, 0, none⟩ (.pointer (some ⟨b, 0, none⟩))).heap } = w
      rw [hh]
    rw [hw] at same
    refine (copyCheck_used b w hcell0).mono ?_
    rintro e w' ⟨rfl, rfl⟩
    exact ⟨_, ok, h, rfl, same⟩

/-- A builder that holds some bytes. -/
abbrev bld (u : Bool) (a b : Nat) (m : Bs) : List (Nat × O) := [(a, .box 124 [addrV u a, .os b m.length]), (b, .own 5 1 (true, [.lit (.int .u8 0)]) (m.map byteRow))]
theorem writeString_ok (u : Bool) (m l : Bs) (hm : m.length + l.length ≤ 140737488355328) : FnMem Tryz.prog 81 [.bp 100000 0, .d (str l)] (bld u 100000 50001 m) (.d (.tup [int l.length, .lit .nilIface])) (bld true 100000 50001 (m ++ l)) := by
  refine fnMem Tryz.func81 rfl (by kernel_rfl) Tryz.ntmps81 _ rfl (by simp) fun C hc => ?_
  repeat' (first | refine Ya ?_ | refine Yb ?_ | refine Yc ?_ | refine Yd ?_ | refine Ye ?_ | refine Yf ?_ | refine Yg ?_ | refine Yh ?_ | refine Yi ?_ | refine Yj ?_ | refine Yk ?_ | refine Yl ?_ | refine Ym ?_ | refine Yn ?_ | refine Yo ?_ | refine Yp (h := ?_) | refine Yq ?_ | refine Yr ?_ | refine Ys ?_ | refine Zr hc (hk := ?_) | refine Zd hc (hk := ?_) | (refine Zc (ht := fun hb => ?_) (hf := fun hb => ?_) <;> (try simp at hb)) | fail)
  (first | refine Zo hc (hk := ?_) | refine Zu hc (hk := ?_) | refine Ze hc (hk := ?_) | refine Zf hc (hk := ?_) | fail)
  (first | refine run_callM ([(100000, 100000), (100001, 50001)]) (copyCheck_ok u (.os 100001 m.length) (.own 5 1 (true, [.lit (.int .u8 0)]) (m.map byteRow))) hc (by simp; exact Gives.mk) (by simp; exact Gives.mk) (by simp; exact Gives.mk) (by simp; exact Gives.mk) (by simp; exact Gives.mk) rfl (by simp; exact Gives.mk) (by simp; exact Gives.mk) rfl (by simp) (by simp) (by simp; exact Gives.mk) (by simp; exact Gives.mk) ?_ | fail)
  repeat' (first | refine Ya ?_ | refine Yb ?_ | refine Yc ?_ | refine Yd ?_ | refine Ye ?_ | refine Yf ?_ | refine Yg ?_ | refine Yh ?_ | refine Yi ?_ | refine Yj ?_ | refine Yk ?_ | refine Yl ?_ | refine Ym ?_ | refine Yn ?_ | refine Yo ?_ | refine Yp (h := ?_) | refine Yq ?_ | refine Yr ?_ | refine Ys ?_ | refine Zr hc (hk := ?_) | refine Zd hc (hk := ?_) | (refine Zc (ht := fun hb => ?_) (hf := fun hb => ?_) <;> (try simp at hb)) | fail)
  (refine run_leaveM [100000, 50001] hc (le_end rfl) (by simp; exact Gives.mk) (by simp; exact Gives.mk) (by first | (simp; done) | (simp; omega)) ?_)
  simp [addrV]
/-- Nothing of what was there has turned but one block. -/
structure But (g : Nat) (w w' : World) : Prop where
  os : w'.os = w.os
  tape : w'.tape = w.tape
  output : w'.output = w.output
  size : w.heap.size ≤ w'.heap.size
  block : ∀ k, k < w.heap.size → k ≠ g → w'.heap[k]? = w.heap[k]?
theorem but_freeze (w : World) (g n : Nat) : But g w (w.drew.freeze ⟨g, 0, none⟩ n) := by
  unfold World.freeze
  split
  · exact ⟨rfl, rfl, rfl, Nat.le_refl _, fun _ _ _ => rfl⟩
  · refine ⟨rfl, rfl, rfl, by show w.heap.size ≤ (w.heap.modify g _).size; simp, fun k _ hne => ?_⟩
    simp only [Array.getElem?_modify, if_neg (fun e : g = k => hne e.symm)]
    rfl
theorem cellsByte : Tryz.prog.cellsOf 5 = 1 := by kernel_rfl
set_option maxHeartbeats 2000000 in
theorem string_full (b g cap : Nat) (c0 : Value) (cur : Array Value) (l : Bs) (h0 : l ≠ []) (w : World) (hbk : w.heap[b]? = some (.cells #[c0, .slice (some ⟨g, 0, none⟩) l.length cap] 124 (0, 0))) (hg : w.heap[g]? = some (.cells cur 5 (0, 0)))
    (hnc : l.length ≤ cap) (hcm : cap ≤ maxLen) (hcs : cur.size = cap) (hl : ∀ (j : Nat) (x : UInt8), l[j]? = some x → cur[j]? = some (.int .u8 x.toNat)) :
    Calls Tryz.prog 83 #[.pointer (some ⟨b, 0, none⟩)] w fun e w' => e = .returned (.string (bs l)) ∧ But g w w' := by
  have hl0 : l.length ≠ 0 := by simpa using h0
  have c1 : w.drew.cell? ⟨b, 1, none⟩ = some (.slice (some ⟨g, 0, none⟩) l.length cap) := by
    have : w.drew.heap[b]? = some (.cells #[c0, .slice (some ⟨g, 0, none⟩) l.length cap] 124 (0, 0)) := hbk
    rw [Lib.cell_of_heap this]; rfl
  have hSD : (Builtin.unsafeSliceData_ #[122] 180 #[.slice (some ⟨g, 0, none⟩) l.length cap]).run Tryz.prog w.drew = .ok (.pointer (some ⟨g, 0, none⟩)) w.drew :=
    Lib.run_unsafeSliceData_row _ _ _ _ _ _ (by omega)
  have hUS : (Builtin.unsafeString_ #[180, 3] 9 #[.pointer (some ⟨g, 0, none⟩), .int .i64 l.length]).run Tryz.prog w.drew = .ok (.string ⟨l.toArray⟩) (w.drew.freeze ⟨g, 0, none⟩ l.length) := by
    refine Lib.run_unsafeString_row w.drew 180 3 9 5 Tryz.underlying180 cellsByte g cur.size (by have hg' : w.drew.heap[g]? = some (.cells cur 5 (0, 0)) := hg; simp [World.shape?, hg']) l h0 (by omega) (by unfold maxLen at hcm; omega) ?_
    intro j x hx
    have hg' : w.drew.heap[g]? = some (.cells cur 5 (0, 0)) := hg
    rw [show (⟨g, 0, none⟩ : Addr).add j = ⟨g, j, none⟩ by unfold Addr.add; split <;> simp_all, Lib.cell_of_heap hg']
    exact hl j x hx
  go_enter Tryz.func83, Tryz.ntmps83
  go_wp2
  go_still_tail 10, (by kernel_rfl)
  go_wp2
  go_ret
  exact ⟨rfl, but_freeze w g l.length⟩
theorem unsafeString_none (W : World) (q : Option Addr) : (Builtin.unsafeString_ #[180, 3] 9 #[.pointer q, .int .i64 0]).run Tryz.prog W = .ok (.string .empty) W :=
  Lib.run_unsafeString_none W _ _ _ q
theorem string_nil (b : Nat) (c0 : Value) (w : World) (hbk : w.heap[b]? = some (.cells #[c0, .slice none 0 0] 124 (0, 0))) :
    Calls Tryz.prog 83 #[.pointer (some ⟨b, 0, none⟩)] w fun e w' => e = .returned (.string (bs [])) ∧ Below w.heap.size w w' := by
  have hUS := unsafeString_none
  have c1 : w.drew.cell? ⟨b, 1, none⟩ = some (.slice none 0 0) := by
    have : w.drew.heap[b]? = some (.cells #[c0, .slice none 0 0] 124 (0, 0)) := hbk
    rw [Lib.cell_of_heap this]; rfl
  have hSD : (Builtin.unsafeSliceData_ #[122] 180 #[.slice none 0 0]).run Tryz.prog w.drew = .ok (.pointer none) w.drew := rfl
  go_enter Tryz.func83, Tryz.ntmps83
  go_wp2
  go_still_tail 10, (by kernel_rfl)
  go_wp2
  go_ret
  exact ⟨rfl, Below.drew (Below.refl _ w)⟩
theorem string_room (b g cap : Nat) (hc0 : cap ≠ 0) (c0 : Value) (w : World) (hbk : w.heap[b]? = some (.cells #[c0, .slice (some ⟨g, 0, none⟩) 0 cap] 124 (0, 0))) :
    Calls Tryz.prog 83 #[.pointer (some ⟨b, 0, none⟩)] w fun e w' => e = .returned (.string (bs [])) ∧ Below w.heap.size w w' := by
  have hUS := unsafeString_none
  have c1 : w.drew.cell? ⟨b, 1, none⟩ = some (.slice (some ⟨g, 0, none⟩) 0 cap) := by
    have : w.drew.heap[b]? = some (.cells #[c0, .slice (some ⟨g, 0, none⟩) 0 cap] 124 (0, 0)) := hbk
    rw [Lib.cell_of_heap this]; rfl
  have hSD : (Builtin.unsafeSliceData_ #[122] 180 #[.slice (some ⟨g, 0, none⟩) 0 cap]).run Tryz.prog w.drew = .ok (.pointer (some ⟨g, 0, none⟩)) w.drew :=
    Lib.run_unsafeSliceData_row _ _ _ _ _ _ hc0
  clear hc0
  go_enter Tryz.func83, Tryz.ntmps83
  go_wp2
  go_still_tail 10, (by kernel_rfl)
  go_wp2
  go_ret
  exact ⟨rfl, Below.drew (Below.refl _ w)⟩
set_option maxHeartbeats 2000000 in
theorem string_noroom (b g : Nat) (c0 : Value) (cur : Array Value) (w : World) (hbk : w.heap[b]? = some (.cells #[c0, .slice (some ⟨g, 0, none⟩) 0 0] 124 (0, 0))) (hg : w.heap[g]? = some (.cells cur 5 (0, 0))) :
    Calls Tryz.prog 83 #[.pointer (some ⟨b, 0, none⟩)] w fun e w' => e = .returned (.string (bs [])) ∧ Below w.heap.size w w' := by
  have mixed : Tryz.prog.follows .mixedOrders = true := by kernel_rfl
  have hUS := unsafeString_none
  have hlt : b < w.heap.size := (Array.getElem?_eq_some_iff.1 hbk).1
  have c1 : w.drew.cell? ⟨b, 1, none⟩ = some (.slice (some ⟨g, 0, none⟩) 0 0) := by
    have : w.drew.heap[b]? = some (.cells #[c0, .slice (some ⟨g, 0, none⟩) 0 0] 124 (0, 0)) := hbk
    rw [Lib.cell_of_heap this]; rfl
  have hSD : (Builtin.unsafeSliceData_ #[122] 180 #[.slice (some ⟨g, 0, none⟩) 0 0]).run Tryz.prog w.drew = .ok (.pointer (some ⟨w.drew.heap.size, 0, none⟩)) (w.drew.alloc (.view ⟨g, 0, none⟩ 5)) :=
    Lib.run_unsafeSliceData_zero w.drew _ _ 5 Tryz.underlying180 ⟨g, 0, none⟩ 0 (5, cur.size) (by have hg' : w.drew.heap[g]? = some (.cells cur 5 (0, 0)) := hg; simp [World.shape?, hg'])
  have c2 : (w.drew.alloc (.view ⟨g, 0, none⟩ 5)).cell? ⟨b, 1, none⟩ = some (.slice (some ⟨g, 0, none⟩) 0 0) := by
    have : (w.drew.alloc (.view ⟨g, 0, none⟩ 5)).heap[b]? = _ := (Lib.alloc_old w.drew _ b hlt).trans hbk
    rw [Lib.cell_of_heap this]; rfl
  have c3 : (w.alloc (.view ⟨g, 0, none⟩ 5)).drew.cell? ⟨b, 1, none⟩ = some (.slice (some ⟨g, 0, none⟩) 0 0) := c2
  have c0' : w.cell? ⟨b, 1, none⟩ = some (.slice (some ⟨g, 0, none⟩) 0 0) := c1
  go_enter Tryz.func83, Tryz.ntmps83
  go_wp2
  go_region_o
  all_goals (go_wp2; go_ret; exact ⟨rfl, (Below.drew (Below.refl _ w)).alloc (Nat.le_refl _) _⟩)
theorem string_ok (u : Bool) (m : Bs) : FnMem Tryz.prog 83 [.bp 100000 0] (bld u 100000 50001 m) (.d (str m)) [] := by
  refine ⟨by kernel_rfl, fun ok h w vs hok hstd hlow hlies hargs => ?_⟩
  obtain ⟨b, cs, hb, hbk, hcs, hcell⟩ := hlies.obj 100000 _ rfl
  obtain ⟨hsz, hcm, hown⟩ := hlies.obj 50001 _ rfl
  obtain ⟨hvs, hva⟩ := hargs
  obtain ⟨v0, hv0, hr0⟩ := hva 0 _ rfl
  obtain rfl : vs = #[.pointer (some ⟨b, 0, none⟩)] := by
    cases hr0 with
    | bp _ _ b' hb' =>
      obtain rfl : b = b' := Option.some.inj (hb.symm.trans hb')
      obtain ⟨vs⟩ := vs
      match vs, hvs, hv0 with
      | [_], _, hv0 => cases hv0; rfl
  obtain ⟨c0, hc0, hcr0⟩ := hcell 0 _ rfl
  obtain ⟨c1, hc1, hcr1⟩ := hcell 1 _ rfl
  obtain rfl : cs = #[c0, c1] := by
    obtain ⟨cs⟩ := cs
    match cs, hcs, hc0, hc1 with
    | [_, _], _, hc0, hc1 => cases hc0; cases hc1; rfl
  have left : ∀ w', (∀ k, k < w.heap.size → ¬ (∃ id, Lw.lentAt h (bld u 100000 50001 m) id k) → w'.heap[k]? = w.heap[k]?) → w'.os = w.os → w'.tape = w.tape → w'.output = w.output → w.heap.size ≤ w'.heap.size →
      Lw.Left (bld u 100000 50001 m) [] (.d (str m)) ok h w ok h w' (.string (bs m)) := fun w' h1 h2 h3 h4 h5 =>
    ⟨h2, h3, h4, h5, h1, fun k hk => hk, fun k hk => ⟨by have := hok k hk; omega, .inl hk⟩, ⟨(fun id o hl => by cases hl), (fun id o b hl => by cases hl), (fun id id' o o' b hl => by cases hl)⟩, (fun id o b hl => by cases hl), fun _ _ => rfl, .d _ _ (.lit _)⟩
  have below : ∀ w', Below w.heap.size w w' → Lw.Left (bld u 100000 50001 m) [] (.d (str m)) ok h w ok h w' (.string (bs m)) := fun w' hw => left w' (fun k hk _ => hw.block k hk) hw.os hw.tape hw.output hw.size
  generalize hc1' : c1 = v1 at hcr1
  cases hcr1 with
  | os _ _ hcap =>
    subst hc1'
    rcases hown with ⟨h1, h2, h3⟩ | ⟨g, cur, fz, h1, h2, h3, h4, h5, h6, h7⟩
    · obtain rfl : m = [] := by simpa using h2
      have hbk' : w.heap[b]? = some (.cells #[c0, .slice none 0 0] 124 (0, 0)) := by rw [hbk]; simp [Hd.addr, h1, h3]
      refine (string_nil b c0 w hbk').mono ?_
      rintro e w' ⟨rfl, hw⟩
      exact ⟨_, ok, h, rfl, below w' hw⟩
    · obtain rfl := h4 rfl
      have hbk' : w.heap[b]? = some (.cells #[c0, .slice (some ⟨g, 0, none⟩) m.length (h 50001).cap] 124 (0, 0)) := by rw [hbk]; simp [Hd.addr, h1]
      by_cases hm : m = []
      · subst hm
        by_cases hz : (h 50001).cap = 0
        · rw [hz] at hbk'
          refine (string_noroom b g c0 cur w hbk' h2).mono ?_
          rintro e w' ⟨rfl, hw⟩
          exact ⟨_, ok, h, rfl, below w' hw⟩
        · refine (string_room b g _ hz c0 w hbk').mono ?_
          rintro e w' ⟨rfl, hw⟩
          exact ⟨_, ok, h, rfl, below w' hw⟩
      · refine (string_full b g (h 50001).cap c0 cur m hm w hbk' h2 hcap hcm (by omega) (fun j x hx => ?_)).mono ?_
        · obtain ⟨_, h9⟩ := h7 j (byteRow x) (by simp [hx])
          obtain ⟨v, h10, h11⟩ := h9 0 _ rfl
          cases h11
          simpa using h10
        · rintro e w' ⟨rfl, hw⟩
          exact ⟨_, ok, h, rfl, left w' (fun k hk hn => hw.block k hk fun e => hn ⟨50001, _, rfl, e ▸ h1⟩) hw.os hw.tape hw.output hw.size⟩
end Go.Proofs.YtnainpghpjelcaaGreatDoor
