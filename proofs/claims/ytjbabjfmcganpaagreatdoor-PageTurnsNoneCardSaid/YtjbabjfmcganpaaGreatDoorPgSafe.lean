/-
  strings.Builder: what its methods do, on list-level states.
-/
import Derived.Test.YtjbabjfmcganpaaGreatDoorLibS
import Derived.Lib.Builder
import Derived.Lib.UnsafeStr
import Derived.Lib.Strings
import Derived.Lib.Slices
import Derived.Lib.Walk
import Derived.Shelf.RegionOpenPlain
import Derived.Laws.Externs
import Derived.StillTailTactics
set_option linter.unusedSimpArgs false
set_option linter.unusedVariables false
namespace Go.Proofs.YtjbabjfmcganpaaGreatDoor
open Go.Lw Go.RowKit Go.Shelf
set_option maxHeartbeats 1000000
set_option maxRecDepth 100000

theorem infoBld : ∃ j, Tryz.prog.info? 70 = some j ∧ j.size = 2 := by
  have h : (Tryz.prog.info? 70).map (·.size) = some 2 := by kernel_rfl
  exact Option.map_eq_some_iff.1 h
theorem copyCheck_used (b : Nat) (w : World) (h0 : w.cell? ⟨b, 0, none⟩ = some (.pointer (some ⟨b, 0, none⟩))) :
    Calls Tryz.prog 54 #[.pointer (some ⟨b, 0, none⟩)] w fun e w' => e = .returned (.tuple #[]) ∧ w' = w := by
  obtain ⟨j, hj, _⟩ := infoBld
  go_enter Tryz.func54, Tryz.ntmps54
  go_wp2
  rw [Lib.run_neq_ptr_same w _ Tryz.underlying68 hj]
  go_wp2
  go_end0
  exact ⟨rfl, rfl⟩
theorem copyCheck_fresh (b : Nat) (w : World) (h0 : w.cell? ⟨b, 0, none⟩ = some (.pointer none)) (hsh : w.shape? b = some (70, 2)) (hfz : w.frozen? ⟨b, 0, none⟩ = false) :
    Calls Tryz.prog 54 #[.pointer (some ⟨b, 0, none⟩)] w fun e w' => e = .returned (.tuple #[]) ∧ w' = w.setCell ⟨b, 0, none⟩ (.pointer (some ⟨b, 0, none⟩)) := by
  obtain ⟨j, hj, hjs⟩ := infoBld
  go_enter Tryz.func54, Tryz.ntmps54
  go_wp2
  rw [Lib.run_to_unsafe w ⟨b, 0, none⟩ Tryz.underlying68 Tryz.underlying134 hj (by rw [hjs]; decide) hsh (Nat.zero_lt_succ 1)]
  simp only [Result.andThen]
  rw [Oper.upon_value]
  go_wp2
  rw [run_callFunc_extern Tryz.func88 (by kernel_rfl) (by kernel_rfl) (by kernel_rfl) (e := Extern.AbiNoEscape.same) (by kernel_rfl)]
  rw [Lib.run_noEscape]
  simp only [Result.andThen]
  rw [Oper.upon_value]
  go_wp2
  rw [Lib.run_from_unsafe w ⟨b, 0, none⟩ Tryz.underlying134 Tryz.underlying68 hj hsh (by kernel_rfl)]
  simp only [Result.andThen]
  rw [Oper.upon_value]
  go_wp2
  go_end0
  exact ⟨rfl, rfl⟩
/-- What a builder's first cell holds: its own address, or nil. -/
def addrV (u : Bool) (id : Nat) : V := bif u then .bp id 0 else .d (.lit (.pointer none))
@[simp] theorem says_addrV (j : Nat) (u : Bool) (id : Nat) : says j (addrV u id) = (u && id == j) := by cases u <;> simp [addrV, says]
@[simp] theorem renV_addrV (σ : List (Nat × Nat)) (u : Bool) (id : Nat) : renV σ (addrV u id) = addrV u (ren σ id) := by cases u <;> simp [addrV]
@[simp] theorem idsV_addrV (q : Nat → Bool) (u : Bool) (id : Nat) : idsV q (addrV u id) = (!u || q id) := by cases u <;> simp [addrV]
@[simp] theorem hushV_addrV (j : Nat) (u : Bool) (id : Nat) : hushV j (addrV u id) = if (u && id == j) = true then .any else addrV u id := by
  unfold hushV
  rw [says_addrV]
  cases (u && id == j) <;> rfl
@[simp] theorem oneV_addrV (u : Bool) (id : Nat) : oneV (addrV u id) = true := by cases u <;> rfl

theorem copyCheck_ok (u : Bool) (x : V) (ob : O) : FnMem Tryz.prog 54 [.bp 100000 0] [(100000, .box 70 [addrV u 100000, x]), (100001, ob)] (.d (.tup [])) [(100000, .box 70 [.bp 100000 0, x]), (100001, ob)] := by
  refine ⟨by kernel_rfl, fun ok h w vs hok hstd hlow hlies hargs => ?_⟩
  obtain ⟨b, cs, hb, hbk, hcs, hcell⟩ := hlies.obj 100000 _ rfl
  obtain ⟨hblt, hbok⟩ := hlies.blk 100000 _ b rfl hb
  have hob := hlies.obj 100001 ob rfl
  have hap : ∀ b', (h 100001).blk = some b' → b' ≠ b := fun b' h1 e => by
    subst e
    exact hlies.apart 100000 100001 _ _ _ rfl rfl (by decide) hb h1
  obtain ⟨hvs, hva⟩ := hargs
  obtain ⟨v0, hv0, hr0⟩ := hva 0 _ rfl
  obtain rfl : vs = #[.pointer (some ⟨b, 0, none⟩)] := by
    cases hr0 with
    | bp _ _ b' hb' =>
      obtain rfl : b = b' := Option.some.inj (hb.symm.trans hb')
      obtain ⟨vs⟩ := vs
      match vs, hvs, hv0 with
      | [_], _, hv0 => cases hv0; rfl
  obtain ⟨c0, hc0, hcr0⟩ := hcell 0 _ rfl
  obtain ⟨c1, hc1, hcr1⟩ := hcell 1 _ rfl
  obtain rfl : cs = #[c0, c1] := by
    obtain ⟨cs⟩ := cs
    match cs, hcs, hc0, hc1 with
    | [_, _], _, hc0, hc1 => cases hc0; cases hc1; rfl
  have hcell0 : w.cell? ⟨b, 0, none⟩ = some c0 := by simp [World.cell?, hbk]
  have same : Lw.Left [(100000, .box 70 [addrV u 100000, x]), (100001, ob)] [(100000, .box 70 [.bp 100000 0, x]), (100001, ob)] (.d (.tup [])) ok h w ok h (w.setCell ⟨b, 0, none⟩ (.pointer (some ⟨b, 0, none⟩))) (.tuple #[]) := by
    have hs : (w.setCell ⟨b, 0, none⟩ (.pointer (some ⟨b, 0, none⟩))).heap.size = w.heap.size := by simp [World.setCell]
    have hne : ∀ k, k ≠ b → (w.setCell ⟨b, 0, none⟩ (.pointer (some ⟨b, 0, none⟩))).heap[k]? = w.heap[k]? := fun k hk => by
      simp only [World.setCell, Array.getElem?_modify, if_neg (fun e : b = k => hk e.symm)]
    have hat : (w.setCell ⟨b, 0, none⟩ (.pointer (some ⟨b, 0, none⟩))).heap[b]? = some (.cells #[.pointer (some ⟨b, 0, none⟩), c1] 70 (0, 0)) := by
      simp [World.setCell, Array.getElem?_modify, hbk]
    have hokb : ∀ k, ok k → (w.setCell ⟨b, 0, none⟩ (.pointer (some ⟨b, 0, none⟩))).heap[k]? = w.heap[k]? := fun k hk => hne k fun e => hbok (e ▸ hk)
    have two : ∀ id o, Lw.look id [(100000, O.box 70 [.bp 100000 0, x]), (100001, ob)] = some o → (id = 100000 ∧ o = .box 70 [.bp 100000 0, x]) ∨ (id = 100001 ∧ o = ob) := fun id o hl => by
      simp only [Lw.look] at hl
      split at hl
      · rename_i e; cases hl; exact .inl ⟨e.symm, rfl⟩
      · split at hl
        · rename_i e; cases hl; exact .inr ⟨e.symm, rfl⟩
        · cases hl
    have old : ∀ id o, Lw.look id [(100000, O.box 70 [.bp 100000 0, x]), (100001, ob)] = some o → ∃ o', Lw.look id [(100000, O.box 70 [addrV u 100000, x]), (100001, ob)] = some o' := fun id o hl => by
      rcases two id o hl with ⟨rfl, _⟩ | ⟨rfl, _⟩
      · exact ⟨_, rfl⟩
      · exact ⟨_, rfl⟩
    refine ⟨rfl, rfl, rfl, by omega, fun k hk hnl => hne k fun e => hnl ⟨100000, _, rfl, e ▸ hb⟩, fun k hk => hk, fun k hk => ⟨by have := hok k hk; omega, .inl hk⟩, ⟨fun id o hl => ?_, fun id o b' hl hb' => ?_, fun id id' o o' b' hl hl' hne' => ?_⟩, fun id o b' hl hb' => ?_, fun _ _ => rfl, .d _ _ (.tup [] #[] (fun _ => undef) rfl (fun i hi => by simp at hi) (fun i d hd => by simp at hd))⟩
    · rcases two id o hl with ⟨rfl, rfl⟩ | ⟨rfl, rfl⟩
      · refine ⟨b, _, hb, hat, rfl, fun k y hk => ?_⟩
        match k, hk with
        | 0, hk => cases hk; exact ⟨_, rfl, .bp 100000 0 b hb⟩
        | 1, hk => cases hk; exact ⟨c1, rfl, hcr1.mono hokb fun _ hb => hb⟩
      · exact hob.mono hokb (fun _ hb => hb) fun b' hb' => hne b' (hap b' hb')
    · obtain ⟨o', ho'⟩ := old id o hl
      obtain ⟨h1, h2⟩ := hlies.blk id o' b' ho' hb'
      exact ⟨by omega, h2⟩
    · obtain ⟨o1, ho1⟩ := old id o hl
      obtain ⟨o2, ho2⟩ := old id' o' hl'
      exact hlies.apart id id' o1 o2 b' ho1 ho2 hne'
    · obtain ⟨o1, ho1⟩ := old id o hl
      exact .inr ⟨o1, ho1, hb'⟩
  cases u with
  | false =>
    have e0 : c0 = .pointer none := lit_of hcr0
    subst e0
    refine (copyCheck_fresh b w hcell0 (by simp [World.shape?, hbk]) (by simp [World.frozen?, hbk])).mono ?_
    rintro e w' ⟨rfl, rfl⟩
    exact ⟨_, ok, h, rfl, same⟩
  | true =>
    have e0 : c0 = .pointer (some ⟨b, 0, none⟩) := by
      cases hcr0 with
      | bp _ _ b' hb' => obtain rfl : b = b' := Option.some.inj (hb.symm.trans hb'); rfl
    subst e0
    have hw : w.setCell ⟨b, 0, none⟩ (.pointer (some ⟨b, 0, none⟩)) = w := by
      have hh : (w.setCell ⟨b, 0, none⟩ (.pointer (some ⟨b, 0, none⟩))).heap = w.heap := by
        apply Array.ext_getElem?
        intro k
        simp only [World.setCell, Array.getElem?_modify]
        split
        · rename_i e; subst e; rw [hbk]; rfl
        · rfl
      show { w with heap := (w.setCell ⟨b, 0, none⟩ (.pointer (some ⟨b, 0, none⟩))).heap } = w
      rw [hh]
    rw [hw] at same
    refine (copyCheck_used b w hcell0).mono ?_
    rintro e w' ⟨rfl, rfl⟩
    exact ⟨_, ok, h, rfl, same⟩

/-- A builder that holds some bytes. -/
abbrev bld (u : Bool) (a b : Nat) (m : Bs) : List (Nat × O) := [(a, .box 70 [addrV u a, .os b m.length]), (b, .own 5 1 (true, [.lit (.int .u8 0)]) (m.map byteRow))]
theorem writeString_ok (u : Bool) (m l : Bs) (hm : m.length + l.length ≤ 140737488355328) : FnMem Tryz.prog 27 [.bp 100000 0, .d (str l)] (bld u 100000 50001 m) (.d (.tup [int l.length, .lit .nilIface])) (bld true 100000 50001 (m ++ l)) := by
  refine fnMem Tryz.func27 rfl (by kernel_rfl) Tryz.ntmps27 _ rfl (by simp) fun C hc => ?_
  repeat' (first | refine Ya ?_ | refine Yb ?_ | refine Yc ?_ | refine Yd ?_ | refine Ye ?_ | refine Yf ?_ | refine Yg ?_ | refine Yh ?_ | refine Yi ?_ | refine Yj ?_ | refine Yk ?_ | refine Yl ?_ | refine Ym ?_ | refine Yn ?_ | refine Yo ?_ | refine Yp (h := ?_) | refine Yq ?_ | refine Yr ?_ | refine Ys ?_ | refine Zr hc (hk := ?_) | refine Zd hc (hk := ?_) | (refine Zc (ht := fun hb => ?_) (hf := fun hb => ?_) <;> (try simp at hb)) | fail)
  (first | refine Zo hc (hk := ?_) | refine Zu hc (hk := ?_) | refine Ze hc (hk := ?_) | refine Zf hc (hk := ?_) | fail)
  (first | refine run_callM ([(100000, 100000), (100001, 50001)]) (copyCheck_ok u (.os 100001 m.length) (.own 5 1 (true, [.lit (.int .u8 0)]) (m.map byteRow))) hc (by simp; exact Gives.mk) (by simp; exact Gives.mk) (by simp; exact Gives.mk) (by simp; exact Gives.mk) (by simp; exact Gives.mk) rfl (by simp; exact Gives.mk) (by simp; exact Gives.mk) rfl (by simp) (by simp) (by simp; exact Gives.mk) (by simp; exact Gives.mk) ?_ | fail)
  repeat' (first | refine Ya ?_ | refine Yb ?_ | refine Yc ?_ | refine Yd ?_ | refine Ye ?_ | refine Yf ?_ | refine Yg ?_ | refine Yh ?_ | refine Yi ?_ | refine Yj ?_ | refine Yk ?_ | refine Yl ?_ | refine Ym ?_ | refine Yn ?_ | refine Yo ?_ | refine Yp (h := ?_) | refine Yq ?_ | refine Yr ?_ | refine Ys ?_ | refine Zr hc (hk := ?_) | refine Zd hc (hk := ?_) | (refine Zc (ht := fun hb => ?_) (hf := fun hb => ?_) <;> (try simp at hb)) | fail)
  (refine run_leaveM [100000, 50001] hc (le_end rfl) (by simp; exact Gives.mk) (by simp; exact Gives.mk) (by first | (simp; done) | (simp; omega)) ?_)
  simp [addrV]
theorem writeByte_ok (u : Bool) (m : Bs) (c : UInt8) (hm : m.length + 1 ≤ 140737488355328) : FnMem Tryz.prog 28 [.bp 100000 0, .d (u8 c)] (bld u 100000 50001 m) (.d (.lit .nilIface)) (bld true 100000 50001 (m ++ [c])) := by
  refine fnMem Tryz.func28 rfl (by kernel_rfl) Tryz.ntmps28 _ rfl (by simp) fun C hc => ?_
  repeat' (first | refine Ya ?_ | refine Yb ?_ | refine Yc ?_ | refine Yd ?_ | refine Ye ?_ | refine Yf ?_ | refine Yg ?_ | refine Yh ?_ | refine Yi ?_ | refine Yj ?_ | refine Yk ?_ | refine Yl ?_ | refine Ym ?_ | refine Yn ?_ | refine Yo ?_ | refine Yp (h := ?_) | refine Yq ?_ | refine Yr ?_ | refine Ys ?_ | refine Zr hc (hk := ?_) | refine Zd hc (hk := ?_) | (refine Zc (ht := fun hb => ?_) (hf := fun hb => ?_) <;> (try simp at hb)) | fail)
  (first | refine Zo hc (hk := ?_) | refine Zu hc (hk := ?_) | refine Ze hc (hk := ?_) | refine Zf hc (hk := ?_) | fail)
  (first | refine run_callM ([(100000, 100000), (100001, 50001)]) (copyCheck_ok u (.os 100001 m.length) (.own 5 1 (true, [.lit (.int .u8 0)]) (m.map byteRow))) hc (by simp; exact Gives.mk) (by simp; exact Gives.mk) (by simp; exact Gives.mk) (by simp; exact Gives.mk) (by simp; exact Gives.mk) rfl (by simp; exact Gives.mk) (by simp; exact Gives.mk) rfl (by simp) (by simp) (by simp; exact Gives.mk) (by simp; exact Gives.mk) ?_ | fail)
  repeat' (first | refine Ya ?_ | refine Yb ?_ | refine Yc ?_ | refine Yd ?_ | refine Ye ?_ | refine Yf ?_ | refine Yg ?_ | refine Yh ?_ | refine Yi ?_ | refine Yj ?_ | refine Yk ?_ | refine Yl ?_ | refine Ym ?_ | refine Yn ?_ | refine Yo ?_ | refine Yp (h := ?_) | refine Yq ?_ | refine Yr ?_ | refine Ys ?_ | refine Zr hc (hk := ?_) | refine Zd hc (hk := ?_) | (refine Zc (ht := fun hb => ?_) (hf := fun hb => ?_) <;> (try simp at hb)) | fail)
  (refine run_leaveM [100000, 50001] hc (le_end rfl) (by simp; exact Gives.mk) (by simp; exact Gives.mk) (by first | (simp; done) | (simp; omega)) ?_)
  simp [addrV]
/-- Nothing of what was there has turned but one block. -/
structure But (g : Nat) (w w' : World) : Prop where
  os : w'.os = w.os
  tape : w'.tape = w.tape
  output : w'.output = w.output
  size : w.heap.size ≤ w'.heap.size
  block : ∀ k, k < w.heap.size → k ≠ g → w'.heap[k]? = w.heap[k]?
theorem but_freeze (w : World) (g n : Nat) : But g w (w.drew.freeze ⟨g, 0, none⟩ n) := by
  unfold World.freeze
  split
  · exact ⟨rfl, rfl, rfl, Nat.le_refl _, fun _ _ _ => rfl⟩
  · refine ⟨rfl, rfl, rfl, by show w.heap.size ≤ (w.heap.modify g _).size; simp, fun k _ hne => ?_⟩
    simp only [Array.getElem?_modify, if_neg (fun e : g = k => hne e.symm)]
    rfl
theorem cellsByte : Tryz.prog.cellsOf 5 = 1 := by kernel_rfl
set_option maxHeartbeats 2000000 in
theorem string_full (b g cap : Nat) (c0 : Value) (cur : Array Value) (l : Bs) (h0 : l ≠ []) (w : World) (hbk : w.heap[b]? = some (.cells #[c0, .slice (some ⟨g, 0, none⟩) l.length cap] 70 (0, 0))) (hg : w.heap[g]? = some (.cells cur 5 (0, 0)))
    (hnc : l.length ≤ cap) (hcm : cap ≤ maxLen) (hcs : cur.size = cap) (hl : ∀ (j : Nat) (x : UInt8), l[j]? = some x → cur[j]? = some (.int .u8 x.toNat)) :
    Calls Tryz.prog 29 #[.pointer (some ⟨b, 0, none⟩)] w fun e w' => e = .returned (.string (bs l)) ∧ But g w w' := by
  have hl0 : l.length ≠ 0 := by simpa using h0
  have c1 : w.drew.cell? ⟨b, 1, none⟩ = some (.slice (some ⟨g, 0, none⟩) l.length cap) := by
    have : w.drew.heap[b]? = some (.cells #[c0, .slice (some ⟨g, 0, none⟩) l.length cap] 70 (0, 0)) := hbk
    rw [Lib.cell_of_heap this]; rfl
  have hSD : (Builtin.unsafeSliceData_ #[22] 112 #[.slice (some ⟨g, 0, none⟩) l.length cap]).run Tryz.prog w.drew = .ok (.pointer (some ⟨g, 0, none⟩)) w.drew :=
    Lib.run_unsafeSliceData_row _ _ _ _ _ _ (by omega)
  have hUS : (Builtin.unsafeString_ #[112, 3] 9 #[.pointer (some ⟨g, 0, none⟩), .int .i64 l.length]).run Tryz.prog w.drew = .ok (.string ⟨l.toArray⟩) (w.drew.freeze ⟨g, 0, none⟩ l.length) := by
    refine Lib.run_unsafeString_row w.drew 112 3 9 5 Tryz.underlying112 cellsByte g cur.size (by have hg' : w.drew.heap[g]? = some (.cells cur 5 (0, 0)) := hg; simp [World.shape?, hg']) l h0 (by omega) (by unfold maxLen at hcm; omega) ?_
    intro j x hx
    have hg' : w.drew.heap[g]? = some (.cells cur 5 (0, 0)) := hg
    rw [show (⟨g, 0, none⟩ : Addr).add j = ⟨g, j, none⟩ by unfold Addr.add; split <;> simp_all, Lib.cell_of_heap hg']
    exact hl j x hx
  go_enter Tryz.func29, Tryz.ntmps29
  go_wp2
  go_still_tail 10, (by kernel_rfl)
  go_wp2
  go_ret
  exact ⟨rfl, but_freeze w g l.length⟩
theorem unsafeString_none (W : World) (q : Option Addr) : (Builtin.unsafeString_ #[112, 3] 9 #[.pointer q, .int .i64 0]).run Tryz.prog W = .ok (.string .empty) W :=
  Lib.run_unsafeString_none W _ _ _ q
theorem string_nil (b : Nat) (c0 : Value) (w : World) (hbk : w.heap[b]? = some (.cells #[c0, .slice none 0 0] 70 (0, 0))) :
    Calls Tryz.prog 29 #[.pointer (some ⟨b, 0, none⟩)] w fun e w' => e = .returned (.string (bs [])) ∧ Below w.heap.size w w' := by
  have hUS := unsafeString_none
  have c1 : w.drew.cell? ⟨b, 1, none⟩ = some (.slice none 0 0) := by
    have : w.drew.heap[b]? = some (.cells #[c0, .slice none 0 0] 70 (0, 0)) := hbk
    rw [Lib.cell_of_heap this]; rfl
  have hSD : (Builtin.unsafeSliceData_ #[22] 112 #[.slice none 0 0]).run Tryz.prog w.drew = .ok (.pointer none) w.drew := rfl
  go_enter Tryz.func29, Tryz.ntmps29
  go_wp2
  go_still_tail 10, (by kernel_rfl)
  go_wp2
  go_ret
  exact ⟨rfl, Below.drew (Below.refl _ w)⟩
theorem string_room (b g cap : Nat) (hc0 : cap ≠ 0) (c0 : Value) (w : World) (hbk : w.heap[b]? = some (.cells #[c0, .slice (some ⟨g, 0, none⟩) 0 cap] 70 (0, 0))) :
    Calls Tryz.prog 29 #[.pointer (some ⟨b, 0, none⟩)] w fun e w' => e = .returned (.string (bs [])) ∧ Below w.heap.size w w' := by
  have hUS := unsafeString_none
  have c1 : w.drew.cell? ⟨b, 1, none⟩ = some (.slice (some ⟨g, 0, none⟩) 0 cap) := by
    have : w.drew.heap[b]? = some (.cells #[c0, .slice (some ⟨g, 0, none⟩) 0 cap] 70 (0, 0)) := hbk
    rw [Lib.cell_of_heap this]; rfl
  have hSD : (Builtin.unsafeSliceData_ #[22] 112 #[.slice (some ⟨g, 0, none⟩) 0 cap]).run Tryz.prog w.drew = .ok (.pointer (some ⟨g, 0, none⟩)) w.drew :=
    Lib.run_unsafeSliceData_row _ _ _ _ _ _ hc0
  clear hc0
  go_enter Tryz.func29, Tryz.ntmps29
  go_wp2
  go_still_tail 10, (by kernel_rfl)
  go_wp2
  go_ret
  exact ⟨rfl, Below.drew (Below.refl _ w)⟩
set_option maxHeartbeats 2000000 in
theorem string_noroom (b g : Nat) (c0 : Value) (cur : Array Value) (w : World) (hbk : w.heap[b]? = some (.cells #[c0, .slice (some ⟨g, 0, none⟩) 0 0] 70 (0, 0))) (hg : w.heap[g]? = some (.cells cur 5 (0, 0))) :
    Calls Tryz.prog 29 #[.pointer (some ⟨b, 0, none⟩)] w fun e w' => e = .returned (.string (bs [])) ∧ Below w.heap.size w w' := by
  have mixed : Tryz.prog.follows .mixedOrders = true := by kernel_rfl
  have hUS := unsafeString_none
  have hlt : b < w.heap.size := (Array.getElem?_eq_some_iff.1 hbk).1
  have c1 : w.drew.cell? ⟨b, 1, none⟩ = some (.slice (some ⟨g, 0, none⟩) 0 0) := by
    have : w.drew.heap[b]? = some (.cells #[c0, .slice (some ⟨g, 0, none⟩) 0 0] 70 (0, 0)) := hbk
    rw [Lib.cell_of_heap this]; rfl
  have hSD : (Builtin.unsafeSliceData_ #[22] 112 #[.slice (some ⟨g, 0, none⟩) 0 0]).run Tryz.prog w.drew = .ok (.pointer (some ⟨w.drew.heap.size, 0, none⟩)) (w.drew.alloc (.view ⟨g, 0, none⟩ 5)) :=
    Lib.run_unsafeSliceData_zero w.drew _ _ 5 Tryz.underlying112 ⟨g, 0, none⟩ 0 (5, cur.size) (by have hg' : w.drew.heap[g]? = some (.cells cur 5 (0, 0)) := hg; simp [World.shape?, hg'])
  have c2 : (w.drew.alloc (.view ⟨g, 0, none⟩ 5)).cell? ⟨b, 1, none⟩ = some (.slice (some ⟨g, 0, none⟩) 0 0) := by
    have : (w.drew.alloc (.view ⟨g, 0, none⟩ 5)).heap[b]? = _ := (Lib.alloc_old w.drew _ b hlt).trans hbk
    rw [Lib.cell_of_heap this]; rfl
  have c3 : (w.alloc (.view ⟨g, 0, none⟩ 5)).drew.cell? ⟨b, 1, none⟩ = some (.slice (some ⟨g, 0, none⟩) 0 0) := c2
  have c0' : w.cell? ⟨b, 1, none⟩ = some (.slice (some ⟨g, 0, none⟩) 0 0) := c1
  go_enter Tryz.func29, Tryz.ntmps29
  go_wp2
  go_region_o
  all_goals (go_wp2; go_ret; exact ⟨rfl, (Below.drew (Below.refl _ w)).alloc (Nat.le_refl _) _⟩)
theorem string_ok (u : Bool) (m : Bs) : FnMem Tryz.prog 29 [.bp 100000 0] (bld u 100000 50001 m) (.d (str m)) [] := by
  refine ⟨by kernel_rfl, fun ok h w vs hok hstd hlow hlies hargs => ?_⟩
  obtain ⟨b, cs, hb, hbk, hcs, hcell⟩ := hlies.obj 100000 _ rfl
  obtain ⟨hsz, hcm, hown⟩ := hlies.obj 50001 _ rfl
  obtain ⟨hvs, hva⟩ := hargs
  obtain ⟨v0, hv0, hr0⟩ := hva 0 _ rfl
  obtain rfl : vs = #[.pointer (some ⟨b, 0, none⟩)] := by
    cases hr0 with
    | bp _ _ b' hb' =>
      obtain rfl : b = b' := Option.some.inj (hb.symm.trans hb')
      obtain ⟨vs⟩ := vs
      match vs, hvs, hv0 with
      | [_], _, hv0 => cases hv0; rfl
  obtain ⟨c0, hc0, hcr0⟩ := hcell 0 _ rfl
  obtain ⟨c1, hc1, hcr1⟩ := hcell 1 _ rfl
  obtain rfl : cs = #[c0, c1] := by
    obtain ⟨cs⟩ := cs
    match cs, hcs, hc0, hc1 with
    | [_, _], _, hc0, hc1 => cases hc0; cases hc1; rfl
  have left : ∀ w', (∀ k, k < w.heap.size → ¬ (∃ id, Lw.lentAt h (bld u 100000 50001 m) id k) → w'.heap[k]? = w.heap[k]?) → w'.os = w.os → w'.tape = w.tape → w'.output = w.output → w.heap.size ≤ w'.heap.size →
      Lw.Left (bld u 100000 50001 m) [] (.d (str m)) ok h w ok h w' (.string (bs m)) := fun w' h1 h2 h3 h4 h5 =>
    ⟨h2, h3, h4, h5, h1, fun k hk => hk, fun k hk => ⟨by have := hok k hk; omega, .inl hk⟩, ⟨(fun id o hl => by cases hl), (fun id o b hl => by cases hl), (fun id id' o o' b hl => by cases hl)⟩, (fun id o b hl => by cases hl), fun _ _ => rfl, .d _ _ (.lit _)⟩
  have below : ∀ w', Below w.heap.size w w' → Lw.Left (bld u 100000 50001 m) [] (.d (str m)) ok h w ok h w' (.string (bs m)) := fun w' hw => left w' (fun k hk _ => hw.block k hk) hw.os hw.tape hw.output hw.size
  generalize hc1' : c1 = v1 at hcr1
  cases hcr1 with
  | os _ _ hcap =>
    subst hc1'
    rcases hown with ⟨h1, h2, h3⟩ | ⟨g, cur, fz, h1, h2, h3, h4, h5, h6, h7⟩
    · obtain rfl : m = [] := by simpa using h2
      have hbk' : w.heap[b]? = some (.cells #[c0, .slice none 0 0] 70 (0, 0)) := by rw [hbk]; simp [Hd.addr, h1, h3]
      refine (string_nil b c0 w hbk').mono ?_
      rintro e w' ⟨rfl, hw⟩
      exact ⟨_, ok, h, rfl, below w' hw⟩
    · obtain rfl := h4 rfl
      have hbk' : w.heap[b]? = some (.cells #[c0, .slice (some ⟨g, 0, none⟩) m.length (h 50001).cap] 70 (0, 0)) := by rw [hbk]; simp [Hd.addr, h1]
      by_cases hm : m = []
      · subst hm
        by_cases hz : (h 50001).cap = 0
        · rw [hz] at hbk'
          refine (string_noroom b g c0 cur w hbk' h2).mono ?_
          rintro e w' ⟨rfl, hw⟩
          exact ⟨_, ok, h, rfl, below w' hw⟩
        · refine (string_room b g _ hz c0 w hbk').mono ?_
          rintro e w' ⟨rfl, hw⟩
          exact ⟨_, ok, h, rfl, below w' hw⟩
      · refine (string_full b g (h 50001).cap c0 cur m hm w hbk' h2 hcap hcm (by omega) (fun j x hx => ?_)).mono ?_
        · obtain ⟨_, h9⟩ := h7 j (byteRow x) (by simp [hx])
          obtain ⟨v, h10, h11⟩ := h9 0 _ rfl
          cases h11
          simpa using h10
        · rintro e w' ⟨rfl, hw⟩
          exact ⟨_, ok, h, rfl, left w' (fun k hk hn => hw.block k hk fun e => hn ⟨50001, _, rfl, e ▸ h1⟩) hw.os hw.tape hw.output hw.size⟩
end Go.Proofs.YtjbabjfmcganpaaGreatDoor
/-
  PAGE: texts that mean others: safe, meant.
-/
set_option linter.unusedSimpArgs false
set_option linter.unusedVariables false
namespace Go.Proofs.YtjbabjfmcganpaaGreatDoor
open Go.Lw
set_option maxRecDepth 100000
set_option maxHeartbeats 1000000

/-! The plain functions. -/
def ent (c : UInt8) : Bs :=
  if c = 38 then [38, 97, 109, 112, 59] else if c = 60 then [38, 108, 116, 59] else if c = 62 then [38, 103, 116, 59] else if c = 34 then [38, 113, 117, 111, 116, 59] else if c = 39 then [38, 35, 51, 57, 59] else [c]
def safe (l : Bs) : Bs := l.flatMap ent
theorem ent_len (c : UInt8) : (ent c).length ≤ 6 := by unfold ent; (repeat' split) <;> simp
theorem safe_len (l : Bs) : (safe l).length ≤ 6 * l.length := by
  induction l with
  | nil => simp [safe]
  | cons c l ih =>
    have := ent_len c
    simp only [safe, List.flatMap_cons, List.length_append, List.length_cons] at ih ⊢
    omega
theorem safe_take (l : Bs) (j : Nat) (h : j < l.length) : safe (l.take (j + 1)) = safe (l.take j) ++ ent (l[j]?.getD 0) := by
  have e : l.take (j + 1) = l.take j ++ [l[j]] := by rw [List.take_add_one]; simp [h]
  rw [e]
  unfold safe
  rw [List.flatMap_append]
  simp [h]

abbrev signRows : List (List D) := [[str [38, 97, 109, 112, 59], str [38]], [str [38, 108, 116, 59], str [60]], [str [38, 103, 116, 59], str [62]], [str [38, 113, 117, 111, 116, 59], str [34]], [str [38, 35, 51, 57, 59], str [39]]]
abbrev signsD : D := .sl 5 fun i => signRows[i]?.getD [str [], str []]
theorem signs_ok : FnOk Tryz.prog 25 [] signsD := by
  refine fnOk Tryz.func25 rfl (by kernel_rfl) Tryz.ntmps25 _ rfl (by simp) fun C hc => ?_
  repeat' (first | refine Ya ?_ | refine Yb ?_ | refine Yc ?_ | refine Yd ?_ | refine Ye ?_ | refine Yf ?_ | refine Yg ?_ | refine Yh ?_ | refine Yi ?_ | refine Yj ?_ | refine Yk ?_ | refine Yl ?_ | refine Ym ?_ | refine Yn ?_ | refine Yo ?_ | refine Yp (h := ?_) | refine Yq ?_ | refine Yr ?_ | refine Ys ?_ | refine Zr hc (hk := ?_) | refine Zd hc (hk := ?_) | (refine Zc (ht := fun hb => ?_) (hf := fun hb => ?_) <;> (try simp at hb)) | fail)
  (refine Zl hc (hr := ?_))
  simp
theorem sub_one (l : Bs) (j : Nat) (h : j < l.length) : (l.take (j + 1)).drop j = [l[j]?.getD 0] := by
  rw [List.drop_take, show j + 1 - j = 1 by omega, List.drop_eq_getElem_cons h, List.take_succ_cons, List.take_zero]
  simp [h]
theorem safeP_ok (l : Bs) (hm : l.length ≤ 1000000000) : FnOk Tryz.prog 24 [str l] (str (safe l)) := by
  refine fnOk Tryz.func24 rfl (by kernel_rfl) Tryz.ntmps24 _ rfl (by simp) fun C hc => ?_
  repeat' (first | refine Ya ?_ | refine Yb ?_ | refine Yc ?_ | refine Yd ?_ | refine Ye ?_ | refine Yf ?_ | refine Yg ?_ | refine Yh ?_ | refine Yi ?_ | refine Yj ?_ | refine Yk ?_ | refine Yl ?_ | refine Ym ?_ | refine Yn ?_ | refine Yo ?_ | refine Yp (h := ?_) | refine Yq ?_ | refine Yr ?_ | refine Ys ?_ | refine Zr hc (hk := ?_) | refine Zd hc (hk := ?_) | (refine Zc (ht := fun hb => ?_) (hf := fun hb => ?_) <;> (try simp at hb)) | fail)
  refine ewp_loop (fun x : Nat × Bool => ⟨[(0, .d (str l)), (3, .bp 3 0), (9, .d (int l.length)), (10, .d (int x.1))], bld x.2 3 40000 (safe (l.take x.1))⟩) (fun x => x.1 ≤ l.length) (fun x => l.length - x.1) (0, false) (by simp) (run_keepB [(3, some 1, 40000, 5, [.lit (.int .u8 0)])] [0, 3, 9, 10] [3, 40000] (by simp; exact Gives.mk) (by simp; exact Gives.mk) (by simp; exact Gives.mk)) ?_
  rintro ⟨j, u⟩ hj
  simp only at hj ⊢
  have hsub := sub_one l j
  repeat' (first | (first | refine Ya ?_ | refine Yb ?_ | refine Yc ?_ | refine Yd ?_ | refine Ye ?_ | refine Yf ?_ | refine Yg ?_ | refine Yh ?_ | refine Yi ?_ | refine Yj ?_ | refine Yk ?_ | refine Yl ?_ | refine Ym ?_ | refine Yn ?_ | refine Yo ?_ | refine Yp (h := ?_) | refine Yq ?_ | refine Yr ?_ | refine Ys ?_ | refine Zr hc (hk := ?_) | refine Zd hc (hk := ?_) | (refine Zc (ht := fun hb => ?_) (hf := fun hb => ?_) <;> (try simp at hb)) | fail) | (first | refine Zw hc (hf := by exact signs_ok) (hk := ?_) | refine Zq hc (hf := by exact signs_ok) (hk := ?_) | refine Zo hc (hk := ?_) | refine Zu hc (hk := ?_) | refine Ze hc (hk := ?_) | refine Zf hc (hk := ?_) | fail))
  · rw [hsub (by omega)]
    generalize hc0 : l[j]?.getD 0 = c
    refine ewp_loop (fun k : Nat => ⟨[(3, .bp 3 0), (0, .d (str l)), (9, .d (int l.length)), (10, .d (int j)), (5, .d (str [c])), (18, .d signsD), (19, .d (int 5)), (20, .d (int k))], bld u 3 40000 (safe (l.take j))⟩) (fun k => k ≤ 5 ∧ (0 < k → c ≠ 38) ∧ (1 < k → c ≠ 60) ∧ (2 < k → c ≠ 62) ∧ (3 < k → c ≠ 34) ∧ (4 < k → c ≠ 39)) (fun k => 5 - k) 0 (by simp) (run_keep [3, 0, 9, 10, 5, 18, 19, 20] [3, 40000] (by simp; exact Gives.mk) (by simp; exact Gives.mk)) ?_
    rintro k ⟨hk, h0, h1, h2, h3, h4⟩
    have hes := safe_take l j (by omega)
    rw [hc0] at hes
    have hsl := safe_len (l.take j)
    have htl : (l.take j).length ≤ j := List.length_take_le _ _
    have hel := ent_len c
    obtain rfl | rfl | rfl | rfl | rfl | rfl : k = 0 ∨ k = 1 ∨ k = 2 ∨ k = 3 ∨ k = 4 ∨ k = 5 := by omega
    all_goals repeat' (first | (first | refine Ya ?_ | refine Yb ?_ | refine Yc ?_ | refine Yd ?_ | refine Ye ?_ | refine Yf ?_ | refine Yg ?_ | refine Yh ?_ | refine Yi ?_ | refine Yj ?_ | refine Yk ?_ | refine Yl ?_ | refine Ym ?_ | refine Yn ?_ | refine Yo ?_ | refine Yp (h := ?_) | refine Yq ?_ | refine Yr ?_ | refine Ys ?_ | refine Zr hc (hk := ?_) | refine Zd hc (hk := ?_) | (refine Zc (ht := fun hb => ?_) (hf := fun hb => ?_) <;> (try simp at hb)) | fail) | (first | refine Zo hc (hk := ?_) | refine Zu hc (hk := ?_) | refine Ze hc (hk := ?_) | refine Zf hc (hk := ?_) | fail) | ((first | refine run_callMQ ([(100000, 3), (50001, 40000)]) (writeString_ok u (safe (l.take j)) _) hc (by simp; exact Gives.mk) (by simp; exact Gives.mk) (by simp; exact Gives.mk) (by simp; exact Gives.mk) (by simp; exact Gives.mk) rfl (by simp; exact Gives.mk) (by simp; exact Gives.mk) rfl (by simp) (by simp) (by simp; exact Gives.mk) (by simp; exact Gives.mk) (by first | exact True.intro | omega | (simp; done) | (simp; omega) | (simp at *; omega)) ?_ | fail)))
    · obtain rfl := hb
      exact ⟨(j + 1, true), by simp; omega, by simp; omega, run_back [0, 3, 9, 10] [3, 40000] (by simp; exact Gives.mk) (by simp; exact Gives.mk) (by simp [hes, ent])⟩
    · exact ⟨1, ⟨by omega, fun _ e => hb e.symm, fun h => by omega, fun h => by omega, fun h => by omega, fun h => by omega⟩, by omega, run_back [3, 0, 9, 10, 5, 18, 19, 20] [3, 40000] (by simp; exact Gives.mk) (by simp; exact Gives.mk) (by simp)⟩
    · obtain rfl := hb
      exact ⟨(j + 1, true), by simp; omega, by simp; omega, run_back [0, 3, 9, 10] [3, 40000] (by simp; exact Gives.mk) (by simp; exact Gives.mk) (by simp [hes, ent])⟩
    · exact ⟨2, ⟨by omega, fun _ => h0 (by omega), fun _ e => hb e.symm, fun h => by omega, fun h => by omega, fun h => by omega⟩, by omega, run_back [3, 0, 9, 10, 5, 18, 19, 20] [3, 40000] (by simp; exact Gives.mk) (by simp; exact Gives.mk) (by simp)⟩
    · obtain rfl := hb
      exact ⟨(j + 1, true), by simp; omega, by simp; omega, run_back [0, 3, 9, 10] [3, 40000] (by simp; exact Gives.mk) (by simp; exact Gives.mk) (by simp [hes, ent])⟩
    · exact ⟨3, ⟨by omega, fun _ => h0 (by omega), fun _ => h1 (by omega), fun _ e => hb e.symm, fun h => by omega, fun h => by omega⟩, by omega, run_back [3, 0, 9, 10, 5, 18, 19, 20] [3, 40000] (by simp; exact Gives.mk) (by simp; exact Gives.mk) (by simp)⟩
    · obtain rfl := hb
      exact ⟨(j + 1, true), by simp; omega, by simp; omega, run_back [0, 3, 9, 10] [3, 40000] (by simp; exact Gives.mk) (by simp; exact Gives.mk) (by simp [hes, ent])⟩
    · exact ⟨4, ⟨by omega, fun _ => h0 (by omega), fun _ => h1 (by omega), fun _ => h2 (by omega), fun _ e => hb e.symm, fun h => by omega⟩, by omega, run_back [3, 0, 9, 10, 5, 18, 19, 20] [3, 40000] (by simp; exact Gives.mk) (by simp; exact Gives.mk) (by simp)⟩
    · obtain rfl := hb
      exact ⟨(j + 1, true), by simp; omega, by simp; omega, run_back [0, 3, 9, 10] [3, 40000] (by simp; exact Gives.mk) (by simp; exact Gives.mk) (by simp [hes, ent])⟩
    · exact ⟨5, ⟨by omega, fun _ => h0 (by omega), fun _ => h1 (by omega), fun _ => h2 (by omega), fun _ => h3 (by omega), fun _ e => hb e.symm⟩, by omega, run_back [3, 0, 9, 10, 5, 18, 19, 20] [3, 40000] (by simp; exact Gives.mk) (by simp; exact Gives.mk) (by simp)⟩
    · have e : ent c = [c] := by unfold ent; rw [if_neg (h0 (by omega)), if_neg (h1 (by omega)), if_neg (h2 (by omega)), if_neg (h3 (by omega)), if_neg (h4 (by omega))]
      exact ⟨(j + 1, true), by simp; omega, by simp; omega, run_back [0, 3, 9, 10] [3, 40000] (by simp; exact Gives.mk) (by simp; exact Gives.mk) (by simp [hes, e])⟩
  (first | refine run_callM ([(100000, 3), (50001, 40000)]) (string_ok u (safe (l.take j))) hc (by simp; exact Gives.mk) (by simp; exact Gives.mk) (by simp; exact Gives.mk) (by simp; exact Gives.mk) (by simp; exact Gives.mk) rfl (by simp; exact Gives.mk) (by simp; exact Gives.mk) rfl (by simp) (by simp) (by simp; exact Gives.mk) (by simp; exact Gives.mk) ?_ | fail)
  repeat' (first | refine Ya ?_ | refine Yb ?_ | refine Yc ?_ | refine Yd ?_ | refine Ye ?_ | refine Yf ?_ | refine Yg ?_ | refine Yh ?_ | refine Yi ?_ | refine Yj ?_ | refine Yk ?_ | refine Yl ?_ | refine Ym ?_ | refine Yn ?_ | refine Yo ?_ | refine Yp (h := ?_) | refine Yq ?_ | refine Yr ?_ | refine Ys ?_ | refine Zr hc (hk := ?_) | refine Zd hc (hk := ?_) | (refine Zc (ht := fun hb => ?_) (hf := fun hb => ?_) <;> (try simp at hb)) | fail)
  (first | refine Zo hc (hk := ?_) | refine Zu hc (hk := ?_) | refine Ze hc (hk := ?_) | refine Zf hc (hk := ?_) | fail)
  repeat' (first | refine Ya ?_ | refine Yb ?_ | refine Yc ?_ | refine Yd ?_ | refine Ye ?_ | refine Yf ?_ | refine Yg ?_ | refine Yh ?_ | refine Yi ?_ | refine Yj ?_ | refine Yk ?_ | refine Yl ?_ | refine Ym ?_ | refine Yn ?_ | refine Yo ?_ | refine Yp (h := ?_) | refine Yq ?_ | refine Yr ?_ | refine Ys ?_ | refine Zr hc (hk := ?_) | refine Zd hc (hk := ?_) | (refine Zc (ht := fun hb => ?_) (hf := fun hb => ?_) <;> (try simp at hb)) | fail)
  (refine Zl hc (hr := ?_))
  rw [List.take_of_length_le (by omega)]
  simp
theorem safeF_ok (l : Bs) (hm : l.length ≤ 9223372036854775807) : FnOk Tryz.prog 13 [str l] (if l.length ≤ 200000 ∧ (safe l).length ≤ 200000 then .tup [str (safe l), int 0] else .tup [str [], int 2]) := by
  refine fnOk Tryz.func13 rfl (by kernel_rfl) Tryz.ntmps13 _ rfl (by simp) fun C hc => ?_
  have hsl := safe_len l
  repeat' (first | (first | refine Ya ?_ | refine Yb ?_ | refine Yc ?_ | refine Yd ?_ | refine Ye ?_ | refine Yf ?_ | refine Yg ?_ | refine Yh ?_ | refine Yi ?_ | refine Yj ?_ | refine Yk ?_ | refine Yl ?_ | refine Ym ?_ | refine Yn ?_ | refine Yo ?_ | refine Yp (h := ?_) | refine Yq ?_ | refine Yr ?_ | refine Ys ?_ | refine Zr hc (hk := ?_) | refine Zd hc (hk := ?_) | (refine Zc (ht := fun hb => ?_) (hf := fun hb => ?_) <;> (try simp at hb)) | fail) | (first | refine Zw hc (hf := by exact safeP_ok l (by omega)) (hk := ?_) | refine Zq hc (hf := by exact safeP_ok l (by omega)) (hk := ?_) | refine Zo hc (hk := ?_) | refine Zu hc (hk := ?_) | refine Ze hc (hk := ?_) | refine Zf hc (hk := ?_) | fail))
  all_goals ((refine Zl hc (hr := ?_)); first | (rw [if_pos (by omega)]; simp; done) | (rw [if_neg (by omega)]; simp; done) | (simp; done))

/-! What a text means. -/
abbrev E5 : List (Bs × UInt8) := [([38, 97, 109, 112, 59], 38), ([38, 108, 116, 59], 60), ([38, 103, 116, 59], 62), ([38, 113, 117, 111, 116, 59], 34), ([38, 35, 51, 57, 59], 39)]
def sg (r : Bs) (k : Nat) : Option (Bs × UInt8) := (E5.take k).find? fun e => e.1.isPrefixOf r
def meant : Bs → Bs
  | [] => []
  | c :: r => match sg (c :: r) 5 with
    | some e => e.2 :: meant (r.drop (e.1.length - 1))
    | none => c :: meant r
termination_by l => l.length
decreasing_by all_goals simp; try omega
theorem pre_both {a b r : Bs} (ha : a.isPrefixOf r = true) (hb : b.isPrefixOf r = true) : a.isPrefixOf b = true ∨ b.isPrefixOf a = true := by
  rw [List.isPrefixOf_iff_prefix] at *
  rw [List.isPrefixOf_iff_prefix]
  rcases Nat.le_total a.length b.length with h | h
  · exact .inl (List.prefix_of_prefix_length_le ha hb h)
  · exact .inr (List.prefix_of_prefix_length_le hb ha h)
theorem sg_mem {r : Bs} {k : Nat} {e : Bs × UInt8} (h : sg r k = some e) : e.1.isPrefixOf r = true ∧ e ∈ E5.take k := ⟨by have := List.find?_some h; simpa using this, List.mem_of_find?_eq_some h⟩
theorem sg_len {r : Bs} {k : Nat} {e : Bs × UInt8} (h : sg r k = some e) : 4 ≤ e.1.length ∧ e.1.length ≤ r.length := by
  obtain ⟨h1, h2⟩ := sg_mem h
  have h3 : e ∈ E5 := List.mem_of_mem_take h2
  refine ⟨?_, List.IsPrefix.length_le (List.isPrefixOf_iff_prefix.1 h1)⟩
  have : ∀ e ∈ E5, 4 ≤ e.1.length := by decide
  exact this e h3
theorem sg_next (r : Bs) (k : Nat) (h : k < 5) : sg r (k + 1) = (sg r k).or (if (E5[k]?.getD ([], 0)).1.isPrefixOf r then some (E5[k]?.getD ([], 0)) else none) := by
  have hk : E5[k]? = some E5[k] := List.getElem?_eq_getElem h
  unfold sg
  rw [List.take_add_one, hk]
  simp only [Option.toList_some, List.find?_append, Option.getD_some]
  congr 1
  cases hb : E5[k].1.isPrefixOf r <;> simp only [List.find?, hb] <;> rfl
theorem sg_no {r : Bs} {k : Nat} {e : Bs × UInt8} (h : k < 5) (hs : sg r k = some e) : (E5[k]?.getD ([], 0)).1.isPrefixOf r = false := by
  cases hb : (E5[k]?.getD ([], 0)).1.isPrefixOf r with
  | false => rfl
  | true =>
    exfalso
    obtain ⟨h1, h2⟩ := sg_mem hs
    have h3 := pre_both h1 hb
    have key : ∀ k, k < 5 → ∀ e ∈ E5.take k, ¬ (e.1.isPrefixOf (E5[k]?.getD ([], 0)).1 = true ∨ (E5[k]?.getD ([], 0)).1.isPrefixOf e.1 = true) := by decide
    exact key k h e h2 h3
theorem meant_len (l : Bs) : (meant l).length ≤ l.length := by
  match l with
  | [] => simp [meant]
  | c :: r =>
    rw [meant]
    split
    · rename_i e _
      have := meant_len (r.drop (e.1.length - 1))
      simp at this ⊢; omega
    · have := meant_len r
      simp; omega
termination_by l.length
decreasing_by all_goals simp; try omega

theorem meantP_ok (l : Bs) (hm : l.length ≤ 200000) : FnOk Tryz.prog 14 [str l] (str (meant l)) := by
  refine fnOk Tryz.func14 rfl (by kernel_rfl) Tryz.ntmps14 _ rfl (by simp) fun C hc => ?_
  repeat' (first | refine Ya ?_ | refine Yb ?_ | refine Yc ?_ | refine Yd ?_ | refine Ye ?_ | refine Yf ?_ | refine Yg ?_ | refine Yh ?_ | refine Yi ?_ | refine Yj ?_ | refine Yk ?_ | refine Yl ?_ | refine Ym ?_ | refine Yn ?_ | refine Yo ?_ | refine Yp (h := ?_) | refine Yq ?_ | refine Yr ?_ | refine Ys ?_ | refine Zr hc (hk := ?_) | refine Zd hc (hk := ?_) | (refine Zc (ht := fun hb => ?_) (hf := fun hb => ?_) <;> (try simp at hb)) | fail)
  refine ewp_loop (fun x : Bs × Bs × Bool => ⟨[(0, .d (str x.1)), (3, .bp 3 0)], bld x.2.2 3 40000 x.2.1⟩) (fun x => x.2.1.length + x.1.length ≤ 200000 ∧ meant l = x.2.1 ++ meant x.1) (fun x => x.1.length) (l, [], false) (by simp; omega) (run_keepB [(3, some 1, 40000, 5, [.lit (.int .u8 0)])] [0, 3] [3, 40000] (by simp; exact Gives.mk) (by simp; exact Gives.mk) (by simp; exact Gives.mk)) ?_
  rintro ⟨r, m, u⟩ ⟨hl, hs⟩
  simp only at hl hs ⊢
  repeat' (first | (first | refine Ya ?_ | refine Yb ?_ | refine Yc ?_ | refine Yd ?_ | refine Ye ?_ | refine Yf ?_ | refine Yg ?_ | refine Yh ?_ | refine Yi ?_ | refine Yj ?_ | refine Yk ?_ | refine Yl ?_ | refine Ym ?_ | refine Yn ?_ | refine Yo ?_ | refine Yp (h := ?_) | refine Yq ?_ | refine Yr ?_ | refine Ys ?_ | refine Zr hc (hk := ?_) | refine Zd hc (hk := ?_) | (refine Zc (ht := fun hb => ?_) (hf := fun hb => ?_) <;> (try simp at hb)) | fail) | (first | refine Zw hc (hf := by exact signs_ok) (hk := ?_) | refine Zq hc (hf := by exact signs_ok) (hk := ?_) | refine Zo hc (hk := ?_) | refine Zu hc (hk := ?_) | refine Ze hc (hk := ?_) | refine Zf hc (hk := ?_) | fail))
  · refine ewp_loop (fun x : Nat × Option (Bs × UInt8) => ⟨[(0, .d (str r)), (3, .bp 3 0), (4, .d (int ((x.2.map fun e => (e.1.length : Int)).getD 1))), (9, .d signsD), (10, .d (int 5)), (11, .d (int x.1))], bld (u || x.2.isSome) 3 40000 (m ++ (x.2.map (·.2)).toList)⟩) (fun x => x.1 ≤ 5 ∧ x.2 = sg r x.1) (fun x => 5 - x.1) (0, none) (by simp [sg]) (run_keep [0, 3, 4, 9, 10, 11] [3, 40000] (by simp; exact Gives.mk) (by simp; exact Gives.mk)) ?_
    rintro ⟨k, p⟩ ⟨hk, hp⟩
    simp only at hk hp ⊢
    have hn := fun h : k < 5 => sg_next r k h
    have hno := fun (h : k < 5) e (he : sg r k = some e) => sg_no h he
    have hle := fun e (he : sg r k = some e) => sg_len he
    obtain rfl | rfl | rfl | rfl | rfl | rfl : k = 0 ∨ k = 1 ∨ k = 2 ∨ k = 3 ∨ k = 4 ∨ k = 5 := by omega
    · obtain _ | e := p
      · simp only [Option.map_none, Option.map_some, Option.getD_none, Option.getD_some, Option.isSome_none, Option.isSome_some, Option.toList_none, Option.toList_some, Bool.or_false, Bool.or_true, List.append_nil]
        repeat' (first | (first | refine Ya ?_ | refine Yb ?_ | refine Yc ?_ | refine Yd ?_ | refine Ye ?_ | refine Yf ?_ | refine Yg ?_ | refine Yh ?_ | refine Yi ?_ | refine Yj ?_ | refine Yk ?_ | refine Yl ?_ | refine Ym ?_ | refine Yn ?_ | refine Yo ?_ | refine Yp (h := ?_) | refine Yq ?_ | refine Yr ?_ | refine Ys ?_ | refine Zr hc (hk := ?_) | refine Zd hc (hk := ?_) | (refine Zc (ht := fun hb => ?_) (hf := fun hb => ?_) <;> (try simp at hb)) | fail) | (first | refine Zw hc (hf := by exact hasPrefix_ok _ _) (hk := ?_) | refine Zq hc (hf := by exact hasPrefix_ok _ _) (hk := ?_) | refine Zo hc (hk := ?_) | refine Zu hc (hk := ?_) | refine Ze hc (hk := ?_) | refine Zf hc (hk := ?_) | fail) | ((first | refine run_callMQ ([(100000, 3), (50001, 40000)]) (writeString_ok _ m _) hc (by simp; exact Gives.mk) (by simp; exact Gives.mk) (by simp; exact Gives.mk) (by simp; exact Gives.mk) (by simp; exact Gives.mk) rfl (by simp; exact Gives.mk) (by simp; exact Gives.mk) rfl (by simp) (by simp) (by simp; exact Gives.mk) (by simp; exact Gives.mk) (by first | exact True.intro | omega | (simp; done) | (simp; omega) | (simp at *; omega)) ?_ | fail)))
        · have h1 : sg r 1 = some ([38, 97, 109, 112, 59], 38) := by rw [hn (by omega), ← hp]; simp [hb]
          exact ⟨(1, some ([38, 97, 109, 112, 59], 38)), ⟨by simp, h1.symm⟩, by simp, run_back [0, 3, 4, 9, 10, 11] [3, 40000] (by simp; exact Gives.mk) (by simp; exact Gives.mk) (by simp)⟩
        · have hb' : (E5[0]?.getD ([], 0)).1.isPrefixOf r = false := hb
          have h1 : sg r 1 = none := by rw [hn (by omega), ← hp, if_neg (by rw [hb']; decide)]; rfl
          exact ⟨(1, none), ⟨by simp, h1.symm⟩, by simp, run_back [0, 3, 4, 9, 10, 11] [3, 40000] (by simp; exact Gives.mk) (by simp; exact Gives.mk) (by simp)⟩
      · have hz := hno (by omega) e hp.symm
        simp only [Option.map_none, Option.map_some, Option.getD_none, Option.getD_some, Option.isSome_none, Option.isSome_some, Option.toList_none, Option.toList_some, Bool.or_false, Bool.or_true, List.append_nil]
        repeat' (first | (first | refine Ya ?_ | refine Yb ?_ | refine Yc ?_ | refine Yd ?_ | refine Ye ?_ | refine Yf ?_ | refine Yg ?_ | refine Yh ?_ | refine Yi ?_ | refine Yj ?_ | refine Yk ?_ | refine Yl ?_ | refine Ym ?_ | refine Yn ?_ | refine Yo ?_ | refine Yp (h := ?_) | refine Yq ?_ | refine Yr ?_ | refine Ys ?_ | refine Zr hc (hk := ?_) | refine Zd hc (hk := ?_) | (refine Zc (ht := fun hb => ?_) (hf := fun hb => ?_) <;> (try simp at hb)) | fail) | (first | refine Zw hc (hf := by exact hasPrefix_ok _ _) (hk := ?_) | refine Zq hc (hf := by exact hasPrefix_ok _ _) (hk := ?_) | refine Zo hc (hk := ?_) | refine Zu hc (hk := ?_) | refine Ze hc (hk := ?_) | refine Zf hc (hk := ?_) | fail))
        · exfalso
          rw [← List.isPrefixOf_iff_prefix] at hb
          have := hz.symm.trans hb
          cases this
        · have h1 : sg r 1 = some e := by rw [hn (by omega), ← hp]; rfl
          exact ⟨(1, some e), ⟨by simp, h1.symm⟩, by simp, run_back [0, 3, 4, 9, 10, 11] [3, 40000] (by simp; exact Gives.mk) (by simp; exact Gives.mk) (by simp)⟩
    · obtain _ | e := p
      · simp only [Option.map_none, Option.map_some, Option.getD_none, Option.getD_some, Option.isSome_none, Option.isSome_some, Option.toList_none, Option.toList_some, Bool.or_false, Bool.or_true, List.append_nil]
        repeat' (first | (first | refine Ya ?_ | refine Yb ?_ | refine Yc ?_ | refine Yd ?_ | refine Ye ?_ | refine Yf ?_ | refine Yg ?_ | refine Yh ?_ | refine Yi ?_ | refine Yj ?_ | refine Yk ?_ | refine Yl ?_ | refine Ym ?_ | refine Yn ?_ | refine Yo ?_ | refine Yp (h := ?_) | refine Yq ?_ | refine Yr ?_ | refine Ys ?_ | refine Zr hc (hk := ?_) | refine Zd hc (hk := ?_) | (refine Zc (ht := fun hb => ?_) (hf := fun hb => ?_) <;> (try simp at hb)) | fail) | (first | refine Zw hc (hf := by exact hasPrefix_ok _ _) (hk := ?_) | refine Zq hc (hf := by exact hasPrefix_ok _ _) (hk := ?_) | refine Zo hc (hk := ?_) | refine Zu hc (hk := ?_) | refine Ze hc (hk := ?_) | refine Zf hc (hk := ?_) | fail) | ((first | refine run_callMQ ([(100000, 3), (50001, 40000)]) (writeString_ok _ m _) hc (by simp; exact Gives.mk) (by simp; exact Gives.mk) (by simp; exact Gives.mk) (by simp; exact Gives.mk) (by simp; exact Gives.mk) rfl (by simp; exact Gives.mk) (by simp; exact Gives.mk) rfl (by simp) (by simp) (by simp; exact Gives.mk) (by simp; exact Gives.mk) (by first | exact True.intro | omega | (simp; done) | (simp; omega) | (simp at *; omega)) ?_ | fail)))
        · have h1 : sg r 2 = some ([38, 108, 116, 59], 60) := by rw [hn (by omega), ← hp]; simp [hb]
          exact ⟨(2, some ([38, 108, 116, 59], 60)), ⟨by simp, h1.symm⟩, by simp, run_back [0, 3, 4, 9, 10, 11] [3, 40000] (by simp; exact Gives.mk) (by simp; exact Gives.mk) (by simp)⟩
        · have hb' : (E5[1]?.getD ([], 0)).1.isPrefixOf r = false := hb
          have h1 : sg r 2 = none := by rw [hn (by omega), ← hp, if_neg (by rw [hb']; decide)]; rfl
          exact ⟨(2, none), ⟨by simp, h1.symm⟩, by simp, run_back [0, 3, 4, 9, 10, 11] [3, 40000] (by simp; exact Gives.mk) (by simp; exact Gives.mk) (by simp)⟩
      · have hz := hno (by omega) e hp.symm
        simp only [Option.map_none, Option.map_some, Option.getD_none, Option.getD_some, Option.isSome_none, Option.isSome_some, Option.toList_none, Option.toList_some, Bool.or_false, Bool.or_true, List.append_nil]
        repeat' (first | (first | refine Ya ?_ | refine Yb ?_ | refine Yc ?_ | refine Yd ?_ | refine Ye ?_ | refine Yf ?_ | refine Yg ?_ | refine Yh ?_ | refine Yi ?_ | refine Yj ?_ | refine Yk ?_ | refine Yl ?_ | refine Ym ?_ | refine Yn ?_ | refine Yo ?_ | refine Yp (h := ?_) | refine Yq ?_ | refine Yr ?_ | refine Ys ?_ | refine Zr hc (hk := ?_) | refine Zd hc (hk := ?_) | (refine Zc (ht := fun hb => ?_) (hf := fun hb => ?_) <;> (try simp at hb)) | fail) | (first | refine Zw hc (hf := by exact hasPrefix_ok _ _) (hk := ?_) | refine Zq hc (hf := by exact hasPrefix_ok _ _) (hk := ?_) | refine Zo hc (hk := ?_) | refine Zu hc (hk := ?_) | refine Ze hc (hk := ?_) | refine Zf hc (hk := ?_) | fail))
        · exfalso
          rw [← List.isPrefixOf_iff_prefix] at hb
          have := hz.symm.trans hb
          cases this
        · have h1 : sg r 2 = some e := by rw [hn (by omega), ← hp]; rfl
          exact ⟨(2, some e), ⟨by simp, h1.symm⟩, by simp, run_back [0, 3, 4, 9, 10, 11] [3, 40000] (by simp; exact Gives.mk) (by simp; exact Gives.mk) (by simp)⟩
    · obtain _ | e := p
      · simp only [Option.map_none, Option.map_some, Option.getD_none, Option.getD_some, Option.isSome_none, Option.isSome_some, Option.toList_none, Option.toList_some, Bool.or_false, Bool.or_true, List.append_nil]
        repeat' (first | (first | refine Ya ?_ | refine Yb ?_ | refine Yc ?_ | refine Yd ?_ | refine Ye ?_ | refine Yf ?_ | refine Yg ?_ | refine Yh ?_ | refine Yi ?_ | refine Yj ?_ | refine Yk ?_ | refine Yl ?_ | refine Ym ?_ | refine Yn ?_ | refine Yo ?_ | refine Yp (h := ?_) | refine Yq ?_ | refine Yr ?_ | refine Ys ?_ | refine Zr hc (hk := ?_) | refine Zd hc (hk := ?_) | (refine Zc (ht := fun hb => ?_) (hf := fun hb => ?_) <;> (try simp at hb)) | fail) | (first | refine Zw hc (hf := by exact hasPrefix_ok _ _) (hk := ?_) | refine Zq hc (hf := by exact hasPrefix_ok _ _) (hk := ?_) | refine Zo hc (hk := ?_) | refine Zu hc (hk := ?_) | refine Ze hc (hk := ?_) | refine Zf hc (hk := ?_) | fail) | ((first | refine run_callMQ ([(100000, 3), (50001, 40000)]) (writeString_ok _ m _) hc (by simp; exact Gives.mk) (by simp; exact Gives.mk) (by simp; exact Gives.mk) (by simp; exact Gives.mk) (by simp; exact Gives.mk) rfl (by simp; exact Gives.mk) (by simp; exact Gives.mk) rfl (by simp) (by simp) (by simp; exact Gives.mk) (by simp; exact Gives.mk) (by first | exact True.intro | omega | (simp; done) | (simp; omega) | (simp at *; omega)) ?_ | fail)))
        · have h1 : sg r 3 = some ([38, 103, 116, 59], 62) := by rw [hn (by omega), ← hp]; simp [hb]
          exact ⟨(3, some ([38, 103, 116, 59], 62)), ⟨by simp, h1.symm⟩, by simp, run_back [0, 3, 4, 9, 10, 11] [3, 40000] (by simp; exact Gives.mk) (by simp; exact Gives.mk) (by simp)⟩
        · have hb' : (E5[2]?.getD ([], 0)).1.isPrefixOf r = false := hb
          have h1 : sg r 3 = none := by rw [hn (by omega), ← hp, if_neg (by rw [hb']; decide)]; rfl
          exact ⟨(3, none), ⟨by simp, h1.symm⟩, by simp, run_back [0, 3, 4, 9, 10, 11] [3, 40000] (by simp; exact Gives.mk) (by simp; exact Gives.mk) (by simp)⟩
      · have hz := hno (by omega) e hp.symm
        simp only [Option.map_none, Option.map_some, Option.getD_none, Option.getD_some, Option.isSome_none, Option.isSome_some, Option.toList_none, Option.toList_some, Bool.or_false, Bool.or_true, List.append_nil]
        repeat' (first | (first | refine Ya ?_ | refine Yb ?_ | refine Yc ?_ | refine Yd ?_ | refine Ye ?_ | refine Yf ?_ | refine Yg ?_ | refine Yh ?_ | refine Yi ?_ | refine Yj ?_ | refine Yk ?_ | refine Yl ?_ | refine Ym ?_ | refine Yn ?_ | refine Yo ?_ | refine Yp (h := ?_) | refine Yq ?_ | refine Yr ?_ | refine Ys ?_ | refine Zr hc (hk := ?_) | refine Zd hc (hk := ?_) | (refine Zc (ht := fun hb => ?_) (hf := fun hb => ?_) <;> (try simp at hb)) | fail) | (first | refine Zw hc (hf := by exact hasPrefix_ok _ _) (hk := ?_) | refine Zq hc (hf := by exact hasPrefix_ok _ _) (hk := ?_) | refine Zo hc (hk := ?_) | refine Zu hc (hk := ?_) | refine Ze hc (hk := ?_) | refine Zf hc (hk := ?_) | fail))
        · exfalso
          rw [← List.isPrefixOf_iff_prefix] at hb
          have := hz.symm.trans hb
          cases this
        · have h1 : sg r 3 = some e := by rw [hn (by omega), ← hp]; rfl
          exact ⟨(3, some e), ⟨by simp, h1.symm⟩, by simp, run_back [0, 3, 4, 9, 10, 11] [3, 40000] (by simp; exact Gives.mk) (by simp; exact Gives.mk) (by simp)⟩
    · obtain _ | e := p
      · simp only [Option.map_none, Option.map_some, Option.getD_none, Option.getD_some, Option.isSome_none, Option.isSome_some, Option.toList_none, Option.toList_some, Bool.or_false, Bool.or_true, List.append_nil]
        repeat' (first | (first | refine Ya ?_ | refine Yb ?_ | refine Yc ?_ | refine Yd ?_ | refine Ye ?_ | refine Yf ?_ | refine Yg ?_ | refine Yh ?_ | refine Yi ?_ | refine Yj ?_ | refine Yk ?_ | refine Yl ?_ | refine Ym ?_ | refine Yn ?_ | refine Yo ?_ | refine Yp (h := ?_) | refine Yq ?_ | refine Yr ?_ | refine Ys ?_ | refine Zr hc (hk := ?_) | refine Zd hc (hk := ?_) | (refine Zc (ht := fun hb => ?_) (hf := fun hb => ?_) <;> (try simp at hb)) | fail) | (first | refine Zw hc (hf := by exact hasPrefix_ok _ _) (hk := ?_) | refine Zq hc (hf := by exact hasPrefix_ok _ _) (hk := ?_) | refine Zo hc (hk := ?_) | refine Zu hc (hk := ?_) | refine Ze hc (hk := ?_) | refine Zf hc (hk := ?_) | fail) | ((first | refine run_callMQ ([(100000, 3), (50001, 40000)]) (writeString_ok _ m _) hc (by simp; exact Gives.mk) (by simp; exact Gives.mk) (by simp; exact Gives.mk) (by simp; exact Gives.mk) (by simp; exact Gives.mk) rfl (by simp; exact Gives.mk) (by simp; exact Gives.mk) rfl (by simp) (by simp) (by simp; exact Gives.mk) (by simp; exact Gives.mk) (by first | exact True.intro | omega | (simp; done) | (simp; omega) | (simp at *; omega)) ?_ | fail)))
        · have h1 : sg r 4 = some ([38, 113, 117, 111, 116, 59], 34) := by rw [hn (by omega), ← hp]; simp [hb]
          exact ⟨(4, some ([38, 113, 117, 111, 116, 59], 34)), ⟨by simp, h1.symm⟩, by simp, run_back [0, 3, 4, 9, 10, 11] [3, 40000] (by simp; exact Gives.mk) (by simp; exact Gives.mk) (by simp)⟩
        · have hb' : (E5[3]?.getD ([], 0)).1.isPrefixOf r = false := hb
          have h1 : sg r 4 = none := by rw [hn (by omega), ← hp, if_neg (by rw [hb']; decide)]; rfl
          exact ⟨(4, none), ⟨by simp, h1.symm⟩, by simp, run_back [0, 3, 4, 9, 10, 11] [3, 40000] (by simp; exact Gives.mk) (by simp; exact Gives.mk) (by simp)⟩
      · have hz := hno (by omega) e hp.symm
        simp only [Option.map_none, Option.map_some, Option.getD_none, Option.getD_some, Option.isSome_none, Option.isSome_some, Option.toList_none, Option.toList_some, Bool.or_false, Bool.or_true, List.append_nil]
        repeat' (first | (first | refine Ya ?_ | refine Yb ?_ | refine Yc ?_ | refine Yd ?_ | refine Ye ?_ | refine Yf ?_ | refine Yg ?_ | refine Yh ?_ | refine Yi ?_ | refine Yj ?_ | refine Yk ?_ | refine Yl ?_ | refine Ym ?_ | refine Yn ?_ | refine Yo ?_ | refine Yp (h := ?_) | refine Yq ?_ | refine Yr ?_ | refine Ys ?_ | refine Zr hc (hk := ?_) | refine Zd hc (hk := ?_) | (refine Zc (ht := fun hb => ?_) (hf := fun hb => ?_) <;> (try simp at hb)) | fail) | (first | refine Zw hc (hf := by exact hasPrefix_ok _ _) (hk := ?_) | refine Zq hc (hf := by exact hasPrefix_ok _ _) (hk := ?_) | refine Zo hc (hk := ?_) | refine Zu hc (hk := ?_) | refine Ze hc (hk := ?_) | refine Zf hc (hk := ?_) | fail))
        · exfalso
          rw [← List.isPrefixOf_iff_prefix] at hb
          have := hz.symm.trans hb
          cases this
        · have h1 : sg r 4 = some e := by rw [hn (by omega), ← hp]; rfl
          exact ⟨(4, some e), ⟨by simp, h1.symm⟩, by simp, run_back [0, 3, 4, 9, 10, 11] [3, 40000] (by simp; exact Gives.mk) (by simp; exact Gives.mk) (by simp)⟩
    · obtain _ | e := p
      · simp only [Option.map_none, Option.map_some, Option.getD_none, Option.getD_some, Option.isSome_none, Option.isSome_some, Option.toList_none, Option.toList_some, Bool.or_false, Bool.or_true, List.append_nil]
        repeat' (first | (first | refine Ya ?_ | refine Yb ?_ | refine Yc ?_ | refine Yd ?_ | refine Ye ?_ | refine Yf ?_ | refine Yg ?_ | refine Yh ?_ | refine Yi ?_ | refine Yj ?_ | refine Yk ?_ | refine Yl ?_ | refine Ym ?_ | refine Yn ?_ | refine Yo ?_ | refine Yp (h := ?_) | refine Yq ?_ | refine Yr ?_ | refine Ys ?_ | refine Zr hc (hk := ?_) | refine Zd hc (hk := ?_) | (refine Zc (ht := fun hb => ?_) (hf := fun hb => ?_) <;> (try simp at hb)) | fail) | (first | refine Zw hc (hf := by exact hasPrefix_ok _ _) (hk := ?_) | refine Zq hc (hf := by exact hasPrefix_ok _ _) (hk := ?_) | refine Zo hc (hk := ?_) | refine Zu hc (hk := ?_) | refine Ze hc (hk := ?_) | refine Zf hc (hk := ?_) | fail) | ((first | refine run_callMQ ([(100000, 3), (50001, 40000)]) (writeString_ok _ m _) hc (by simp; exact Gives.mk) (by simp; exact Gives.mk) (by simp; exact Gives.mk) (by simp; exact Gives.mk) (by simp; exact Gives.mk) rfl (by simp; exact Gives.mk) (by simp; exact Gives.mk) rfl (by simp) (by simp) (by simp; exact Gives.mk) (by simp; exact Gives.mk) (by first | exact True.intro | omega | (simp; done) | (simp; omega) | (simp at *; omega)) ?_ | fail)))
        · have h1 : sg r 5 = some ([38, 35, 51, 57, 59], 39) := by rw [hn (by omega), ← hp]; simp [hb]
          exact ⟨(5, some ([38, 35, 51, 57, 59], 39)), ⟨by simp, h1.symm⟩, by simp, run_back [0, 3, 4, 9, 10, 11] [3, 40000] (by simp; exact Gives.mk) (by simp; exact Gives.mk) (by simp)⟩
        · have hb' : (E5[4]?.getD ([], 0)).1.isPrefixOf r = false := hb
          have h1 : sg r 5 = none := by rw [hn (by omega), ← hp, if_neg (by rw [hb']; decide)]; rfl
          exact ⟨(5, none), ⟨by simp, h1.symm⟩, by simp, run_back [0, 3, 4, 9, 10, 11] [3, 40000] (by simp; exact Gives.mk) (by simp; exact Gives.mk) (by simp)⟩
      · have hz := hno (by omega) e hp.symm
        simp only [Option.map_none, Option.map_some, Option.getD_none, Option.getD_some, Option.isSome_none, Option.isSome_some, Option.toList_none, Option.toList_some, Bool.or_false, Bool.or_true, List.append_nil]
        repeat' (first | (first | refine Ya ?_ | refine Yb ?_ | refine Yc ?_ | refine Yd ?_ | refine Ye ?_ | refine Yf ?_ | refine Yg ?_ | refine Yh ?_ | refine Yi ?_ | refine Yj ?_ | refine Yk ?_ | refine Yl ?_ | refine Ym ?_ | refine Yn ?_ | refine Yo ?_ | refine Yp (h := ?_) | refine Yq ?_ | refine Yr ?_ | refine Ys ?_ | refine Zr hc (hk := ?_) | refine Zd hc (hk := ?_) | (refine Zc (ht := fun hb => ?_) (hf := fun hb => ?_) <;> (try simp at hb)) | fail) | (first | refine Zw hc (hf := by exact hasPrefix_ok _ _) (hk := ?_) | refine Zq hc (hf := by exact hasPrefix_ok _ _) (hk := ?_) | refine Zo hc (hk := ?_) | refine Zu hc (hk := ?_) | refine Ze hc (hk := ?_) | refine Zf hc (hk := ?_) | fail))
        · exfalso
          rw [← List.isPrefixOf_iff_prefix] at hb
          have := hz.symm.trans hb
          cases this
        · have h1 : sg r 5 = some e := by rw [hn (by omega), ← hp]; rfl
          exact ⟨(5, some e), ⟨by simp, h1.symm⟩, by simp, run_back [0, 3, 4, 9, 10, 11] [3, 40000] (by simp; exact Gives.mk) (by simp; exact Gives.mk) (by simp)⟩
    · obtain _ | e := p
      · simp only [Option.map_none, Option.map_some, Option.getD_none, Option.getD_some, Option.isSome_none, Option.isSome_some, Option.toList_none, Option.toList_some, Bool.or_false, Bool.or_true, List.append_nil]
        have h0 : 0 < r.length := by cases r; contradiction; simp
        have hmr : meant r = r[0]?.getD 0 :: meant (r.drop 1) := by
          cases r with
          | nil => contradiction
          | cons c r => rw [meant, ← hp]; simp
        repeat' (first | (first | refine Ya ?_ | refine Yb ?_ | refine Yc ?_ | refine Yd ?_ | refine Ye ?_ | refine Yf ?_ | refine Yg ?_ | refine Yh ?_ | refine Yi ?_ | refine Yj ?_ | refine Yk ?_ | refine Yl ?_ | refine Ym ?_ | refine Yn ?_ | refine Yo ?_ | refine Yp (h := ?_) | refine Yq ?_ | refine Yr ?_ | refine Ys ?_ | refine Zr hc (hk := ?_) | refine Zd hc (hk := ?_) | (refine Zc (ht := fun hb => ?_) (hf := fun hb => ?_) <;> (try simp at hb)) | fail) | (first | refine Zo hc (hk := ?_) | refine Zu hc (hk := ?_) | refine Ze hc (hk := ?_) | refine Zf hc (hk := ?_) | fail) | ((first | refine run_callMQ ([(100000, 3), (50001, 40000)]) (writeByte_ok _ m _) hc (by simp; exact Gives.mk) (by simp; exact Gives.mk) (by simp; exact Gives.mk) (by simp; exact Gives.mk) (by simp; exact Gives.mk) rfl (by simp; exact Gives.mk) (by simp; exact Gives.mk) rfl (by simp) (by simp) (by simp; exact Gives.mk) (by simp; exact Gives.mk) (by first | exact True.intro | omega | (simp; done) | (simp; omega) | (simp at *; omega)) ?_ | fail)))
        exact ⟨(r.drop 1, m ++ [r[0]?.getD 0], true), ⟨by simp; omega, by rw [hs, hmr]; simp⟩, by simp; omega, run_back [0, 3] [3, 40000] (by simp; exact Gives.mk) (by simp; exact Gives.mk) (by simp)⟩
      · have hz := hle e hp.symm
        have hmr : meant r = e.2 :: meant (r.drop e.1.length) := by
          cases r with
          | nil => contradiction
          | cons c r =>
            rw [meant, ← hp]
            simp only
            rw [show e.1.length = (e.1.length - 1) + 1 by omega, List.drop_succ_cons]
            rfl
        simp only [Option.map_none, Option.map_some, Option.getD_none, Option.getD_some, Option.isSome_none, Option.isSome_some, Option.toList_none, Option.toList_some, Bool.or_false, Bool.or_true, List.append_nil]
        repeat' (first | (first | refine Ya ?_ | refine Yb ?_ | refine Yc ?_ | refine Yd ?_ | refine Ye ?_ | refine Yf ?_ | refine Yg ?_ | refine Yh ?_ | refine Yi ?_ | refine Yj ?_ | refine Yk ?_ | refine Yl ?_ | refine Ym ?_ | refine Yn ?_ | refine Yo ?_ | refine Yp (h := ?_) | refine Yq ?_ | refine Yr ?_ | refine Ys ?_ | refine Zr hc (hk := ?_) | refine Zd hc (hk := ?_) | (refine Zc (ht := fun hb => ?_) (hf := fun hb => ?_) <;> (try simp at hb)) | fail))
        · exfalso; omega
        · exact ⟨(r.drop e.1.length, m ++ [e.2], true), ⟨by simp; omega, by rw [hs, hmr]; simp⟩, by simp; omega, run_back [0, 3] [3, 40000] (by simp; exact Gives.mk) (by simp; exact Gives.mk) (by simp)⟩
  (first | refine run_callM ([(100000, 3), (50001, 40000)]) (string_ok u m) hc (by simp; exact Gives.mk) (by simp; exact Gives.mk) (by simp; exact Gives.mk) (by simp; exact Gives.mk) (by simp; exact Gives.mk) rfl (by simp; exact Gives.mk) (by simp; exact Gives.mk) rfl (by simp) (by simp) (by simp; exact Gives.mk) (by simp; exact Gives.mk) ?_ | fail)
  repeat' (first | refine Ya ?_ | refine Yb ?_ | refine Yc ?_ | refine Yd ?_ | refine Ye ?_ | refine Yf ?_ | refine Yg ?_ | refine Yh ?_ | refine Yi ?_ | refine Yj ?_ | refine Yk ?_ | refine Yl ?_ | refine Ym ?_ | refine Yn ?_ | refine Yo ?_ | refine Yp (h := ?_) | refine Yq ?_ | refine Yr ?_ | refine Ys ?_ | refine Zr hc (hk := ?_) | refine Zd hc (hk := ?_) | (refine Zc (ht := fun hb => ?_) (hf := fun hb => ?_) <;> (try simp at hb)) | fail)
  (first | refine Zo hc (hk := ?_) | refine Zu hc (hk := ?_) | refine Ze hc (hk := ?_) | refine Zf hc (hk := ?_) | fail)
  repeat' (first | refine Ya ?_ | refine Yb ?_ | refine Yc ?_ | refine Yd ?_ | refine Ye ?_ | refine Yf ?_ | refine Yg ?_ | refine Yh ?_ | refine Yi ?_ | refine Yj ?_ | refine Yk ?_ | refine Yl ?_ | refine Ym ?_ | refine Yn ?_ | refine Yo ?_ | refine Yp (h := ?_) | refine Yq ?_ | refine Yr ?_ | refine Ys ?_ | refine Zr hc (hk := ?_) | refine Zd hc (hk := ?_) | (refine Zc (ht := fun hb => ?_) (hf := fun hb => ?_) <;> (try simp at hb)) | fail)
  (refine Zl hc (hr := ?_))
  rw [hs, hb]
  simp [meant]
end Go.Proofs.YtjbabjfmcganpaaGreatDoor
