/-
  THE LIBRARY, OVER A ROW OF STRINGS OF ONE's OWN: Split makes one, Reverse and Sort turn it.
-/
import Derived.Test.YtpmfmjgnhdfakaaGreatDoorLibS
import Derived.Test.YtpmfmjgnhdfakaaGreatDoorLwSeal
set_option linter.unusedSimpArgs false
set_option linter.unusedVariables false
namespace Go.Proofs.YtpmfmjgnhdfakaaGreatDoor
open Go.Lw Go.RowKit
set_option maxRecDepth 100000
set_option maxHeartbeats 1000000

abbrev ownS (id : Nat) (L : List Bs) : List (Nat × O) := [(id, .own 9 1 (true, [str []]) (L.map fun x => [str x]))]
theorem look_own (id : Nat) (L : List Bs) : Lw.look id (ownS id L) = some (.own 9 1 (true, [str []]) (L.map fun x => [str x])) := by simp [ownS, Lw.look]
theorem rowFn (id0 : Nat) {f : FuncId} (zs zs' : List Bs) (hne : zs ≠ []) (hl : zs'.length = zs.length) (hf : callB Tryz.prog f = true)
    (hc : ∀ (blk cap : Nat) (w : World), Sort.Holds encStr w blk 0 zs.toArray → blk < w.heap.size → Calls Tryz.prog f #[.slice (some ⟨blk, 0, none⟩) zs.length cap] w fun e w' => e = .returned (.tuple #[]) ∧ ∃ n os, w' = Sort.grow (Sort.putRow encStr (Sort.ahead w n) blk 0 zs'.toArray) os) :
    FnMem Tryz.prog f [.os id0 zs.length] (ownS id0 zs) (.d (.tup [])) (ownS id0 zs') := by
  refine ⟨hf, fun ok h w vs hok hstd _ hlie ha => ?_⟩
  obtain ⟨hn, hr⟩ := ha
  obtain ⟨v0, e0, r0⟩ := hr 0 _ rfl
  have hob := hlie.obj id0 _ (look_own id0 _)
  obtain ⟨hsz, hcap, hx⟩ := hob
  rcases hx with ⟨_, he, _⟩ | ⟨b, cur, fz, hb, hheap, hth, hfz, hlen, hcs, hcells⟩
  · exact absurd (List.map_eq_nil_iff.1 he) hne
  obtain rfl := hfz rfl
  obtain ⟨hblt, hnok⟩ := hlie.blk id0 _ b (look_own id0 _) hb
  have hvs : vs = #[.slice (some ⟨b, 0, none⟩) zs.length (h id0).cap] := by
    have hv0 : v0 = .slice (some ⟨b, 0, none⟩) zs.length (h id0).cap := by
      cases r0
      simp [Hd.addr, hb]
    subst hv0
    apply Array.ext'
    apply List.ext_getElem?
    intro k
    match k with
    | 0 => simpa using e0
    | k + 1 =>
      rw [Array.getElem?_toList, Array.getElem?_eq_none (by rw [hn]; simp)]
      simp
  subst hvs
  simp only [List.length_map] at hlen
  have hat : ∀ j, j < zs.length → cur[j]? = some (encStr (zs[j]?.getD [])) := by
    intro j hj
    obtain ⟨_, h2⟩ := hcells j [str (zs[j]?.getD [])] (by simp [hj])
    obtain ⟨v, h3, h4⟩ := h2 0 _ rfl
    cases h4
    have h3' : cur[j * 1 + 0]? = some (encStr (zs[j]?.getD [])) := h3
    simpa only [Nat.mul_one, Nat.add_zero] using h3'
  have hH : Sort.Holds encStr w b 0 zs.toArray := by
    intro j hj
    have hj' : j < zs.length := by simpa using hj
    refine ⟨?_, ?_⟩
    · have := hat j hj'
      simp [World.cell?, hheap, this, hj']
    · simp [World.frozen?, hheap]
  refine (hc b _ w hH hblt).mono fun e w' ⟨he, n, os, hw⟩ => ⟨_, ok, h, he, ?_⟩
  have hget : ∀ k, k < w.heap.size → w'.heap[k]? = (w.heap[k]?).map (if b = k then Sort.onCells (Sort.putCells encStr 0 zs'.toArray) else id) := by
    intro k hk
    rw [hw]
    simp only [Sort.grow, Sort.putRow, Sort.mapBlock, Sort.ahead]
    rw [Array.getElem?_append_left (by simpa using hk), Array.getElem?_modify]
    by_cases e : b = k
    · simp [e]
    · simp [e]
  have hsize : w.heap.size ≤ w'.heap.size := by
    rw [hw]; simp [Sort.grow, Sort.putRow, Sort.mapBlock, Sort.ahead]
  refine ⟨by rw [hw]; rfl, by rw [hw]; rfl, by rw [hw]; rfl, hsize, fun k hk hnl => ?_, fun _ h => h, fun k hk => ⟨Nat.lt_of_lt_of_le (hok k hk) hsize, .inl hk⟩, ?_, fun id o b' hid hb' => ?_, fun _ _ => rfl, ?_⟩
  · rw [hget k hk, if_neg (fun e => hnl ⟨id0, _, (look_own id0 _), by rw [← e]; exact hb⟩)]
    simp
  · have hcur : w'.heap[b]? = some (.cells (Sort.putCells encStr 0 zs'.toArray cur) 9 (0, 0)) := by
      rw [hget b hblt, if_pos rfl, hheap]
      rfl
    refine ⟨fun id o hid => ?_, fun id o b' hid hb' => ?_, fun id id' o o' b' hid hid' hne' => ?_⟩
    · simp only [ownS, Lw.look] at hid
      split at hid
      · rename_i e
        subst e; cases hid
        refine ⟨hsz, hcap, .inr ⟨b, _, (0, 0), hb, hcur, by simp [thaw], fun _ => rfl, by simp; omega, by simp [Sort.putCells, hcs], fun i l hi => ?_⟩⟩
        rw [List.getElem?_map] at hi
        obtain ⟨x, hx, rfl⟩ := Option.map_eq_some_iff.1 hi
        refine ⟨rfl, fun k d hd => ?_⟩
        have hk : k = 0 := by
          cases k with
          | zero => rfl
          | succ k => simp at hd
        subst hk
        cases hd
        have hil : i < zs'.length := (List.getElem?_eq_some_iff.1 hx).1
        have hic : i < cur.size := by
          have := hat i (by omega)
          exact (Array.getElem?_eq_some_iff.1 this).1
        refine ⟨.string (bs x), ?_, .lit _⟩
        simp only [Nat.mul_one, Nat.add_zero, Sort.putCells]
        rw [Array.getElem?_mapIdx, Array.getElem?_eq_getElem hic]
        simp only [Option.map_some, Nat.zero_le, true_and, Nat.zero_add, Nat.sub_zero]
        rw [if_pos (by simpa using hil)]
        have hxi : zs'.toArray[i]! = x := by
          rw [getElem!_pos _ i (by simpa using hil)]
          have := (List.getElem?_eq_some_iff.1 hx).2
          simpa using this
        rw [hxi]
        rfl
      · cases hid
    · simp only [ownS, Lw.look] at hid
      split at hid
      · rename_i e
        subst e
        rw [hb] at hb'
        cases hb'
        exact ⟨Nat.lt_of_lt_of_le hblt hsize, hnok⟩
      · cases hid
    · simp only [ownS, Lw.look] at hid hid'
      split at hid
      · split at hid'
        · rename_i e1 e2; exact absurd (e1.symm.trans e2) hne'
        · cases hid'
      · cases hid
  · simp only [ownS, Lw.look] at hid
    split at hid
    · rename_i e
      subst e
      exact .inr ⟨_, (look_own id0 _), hb'⟩
    · cases hid
  · exact .d _ _ (.tup [] _ (fun _ => undef) rfl (fun i hi => by simp at hi) (fun i d hi => by simp at hi))
theorem splitM_ok (s : Bs) (c : UInt8) (hs : s.length < 4294967281) : FnMem Tryz.prog 99 [.d (str s), .d (str [c])] [] (.os 50001 (Lib.split s [c]).length) (ownS 50001 (Lib.split s [c])) := by
  refine ⟨by kernel_rfl, fun ok h0 w vs hk hstd _ _ ha => ?_⟩
  obtain ⟨hn, hr⟩ := ha
  obtain ⟨v0, e0, r0⟩ := hr 0 _ rfl
  obtain ⟨v1, e1, r1⟩ := hr 1 _ rfl
  have hvs : vs = #[.string (bs s), .string (bs [c])] := by
    obtain rfl : v0 = .string (bs s) := by cases r0 with | d x v hx => cases hx; rfl
    obtain rfl : v1 = .string (bs [c]) := by cases r1 with | d x v hx => cases hx; rfl
    apply Array.ext'
    apply List.ext_getElem?
    intro k
    match k with
    | 0 => simpa using e0
    | 1 => simpa using e1
    | k + 2 =>
      rw [Array.getElem?_toList, Array.getElem?_eq_none (by rw [hn]; simp)]
      simp
  subst hvs
  obtain ⟨m, hm⟩ := hstd.2.1 0 3 .i64 (by kernel_rfl) (by kernel_rfl)
  have h := Tryz.strings_Split (bs s) (bs [c]) m w (by simpa using hs) hm (by simp)
  have hcnt : Lib.countB (bs s) (bs [c]) + 1 = (Lib.split s [c]).length := (countFrom_splitK c s).symm
  have hB : Lib.splitB (bs [c]) 0 (Lib.countB (bs s) (bs [c])) (bs s) = (Lib.split s [c]).map bs := by
    have e := Lib.splitB_data (bs [c]) 0 (Lib.countB (bs s) (bs [c])) (bs s)
    have e2 : (Lib.split s [c]).map bs = ((Lib.splitB (bs [c]) 0 (Lib.countB (bs s) (bs [c])) (bs s)).map (·.data.toList)).map bs := congrArg (List.map bs) e.symm
    rw [e2, List.map_map]
    exact (List.map_id'' (fun _ => rfl) _).symm
  rw [hcnt, hB] at h
  have hlen := split_len s c
  generalize Lib.split s [c] = L at h hlen ⊢
  have hsz : ∀ o : Obj, (w.alloc o).heap.size = w.heap.size + 1 := fun o => by unfold World.alloc; simp
  refine h.mono fun e w' ⟨he, hw⟩ => ⟨_, ok, upd h0 50001 ⟨some w.heap.size, L.length, 1⟩, he, ?_⟩
  subst hw
  have hal := (Below.refl w.heap.size w).alloc (Nat.le_refl _) (.cells ((L.map bs).map Value.string).toArray 9)
  refine ⟨hal.os, hal.tape, hal.output, hal.size, fun k hk' _ => hal.block k hk', fun _ h => h, fun k hk' => ⟨Nat.lt_of_lt_of_le (hk k hk') hal.size, .inl hk'⟩, ⟨fun id o hid => ?_, fun id o b hid hb => ?_, fun id id' o o' b hid hid' hne' => ?_⟩, fun id o b hid hb => ?_, fun id hid => upd_ne h0 50001 _ _ (by omega), ?_⟩
  · simp only [ownS, Lw.look] at hid
    split at hid
    · rename_i e
      subst e; cases hid
      refine ⟨by rw [upd_same], by rw [upd_same]; simp only [maxLen]; omega, .inr ⟨w.heap.size, _, (0, 0), by rw [upd_same], heap_alloc_new w _, by simp [thaw], fun _ => rfl, by rw [upd_same]; simp, by rw [upd_same]; simp, fun i l hi => ?_⟩⟩
      rw [List.getElem?_map] at hi
      obtain ⟨x, hx, rfl⟩ := Option.map_eq_some_iff.1 hi
      refine ⟨rfl, fun k d hd => ?_⟩
      have hk : k = 0 := by
        cases k with
        | zero => rfl
        | succ k => simp at hd
      subst hk
      cases hd
      refine ⟨.string (bs x), by simp [hx], .lit _⟩
    · cases hid
  · simp only [ownS, Lw.look] at hid
    split at hid
    · rename_i e
      subst e
      rw [upd_same] at hb
      cases hb
      exact ⟨by rw [hsz]; omega, fun hx => by have := hk _ hx; omega⟩
    · cases hid
  · simp only [ownS, Lw.look] at hid hid'
    split at hid
    · split at hid'
      · rename_i e1 e2; exact absurd (e1.symm.trans e2) hne'
      · cases hid'
    · cases hid
  · simp only [ownS, Lw.look] at hid
    split at hid
    · rename_i e
      subst e
      rw [upd_same] at hb
      cases hb
      exact .inl (Nat.le_refl _)
    · cases hid
  · have hr := RdV.os (w := w.alloc (.cells ((L.map bs).map Value.string).toArray 9)) (ok := ok) (h := upd h0 50001 ⟨some w.heap.size, L.length, 1⟩) 50001 L.length (by rw [upd_same]; exact Nat.le_refl _)
    rw [upd_same] at hr
    exact hr
theorem reverse_ok (L : List Bs) (hne : L ≠ []) (hl : L.length ≤ 1000000) : FnMem Tryz.prog 108 [.os 100001 L.length] (ownS 100001 L) (.d (.tup [])) (ownS 100001 L.reverse) :=
  rowFn 100001 L L.reverse hne (by simp) (by kernel_rfl) fun blk cap w hH hb => (Tryz.slices_Reverse_string blk 0 cap L w hH (by omega)).mono fun e w' ⟨he, n, hw⟩ => ⟨he, n, #[], by rw [hw, Sort.grow_empty]⟩
end Go.Proofs.YtpmfmjgnhdfakaaGreatDoor
