/-
  TOP, IN PLAIN LEAN: keys of one host; sorted keys, each once.
-/
import Derived.Test.YtpmfmjgnhdfakaaGreatDoorKeyE
import Derived.Test.YtpmfmjgnhdfakaaGreatDoorScD
import Derived.Test.YtpmfmjgnhdfakaaGreatDoorFoA
import Derived.Test.YtpmfmjgnhdfakaaGreatDoorFmD
import Derived.Lib.SlicesCompact
import Derived.Test.YtpmfmjgnhdfakaaGreatDoorRow
import Derived.Shelf.Slices.CompactS
import Derived.Test.YtpmfmjgnhdfakaaGreatDoorQO
import Derived.Test.YtpmfmjgnhdfakaaGreatDoorLibS
import Derived.Test.YtpmfmjgnhdfakaaGreatDoorLwPh
import Derived.Test.YtpmfmjgnhdfakaaGreatDoorNm
import Derived.Test.YtpmfmjgnhdfakaaGreatDoorKeyB
import Derived.Test.YtpmfmjgnhdfakaaGreatDoorOwnD
import Derived.Test.YtpmfmjgnhdfakaaGreatDoorFnE
import Derived.Test.YtpmfmjgnhdfakaaGreatDoorFnT
set_option linter.unusedSimpArgs false
set_option linter.unusedVariables false
namespace Go.Proofs.YtpmfmjgnhdfakaaGreatDoor
open Go.Lw
set_option maxRecDepth 100000
set_option maxHeartbeats 1000000

/-- What stands behind the first ) is nothing to the host. -/
theorem hostK_app (X Y Z : Bs) : hostK (X ++ 41 :: Y) = hostK (X ++ 41 :: Z) := by
  unfold hostK
  rcases parted 41 X with h | ⟨a, b, rfl, h⟩
  · rw [cut_app 41 X Y h, cut_app 41 X Z h]
  · rw [List.append_assoc, List.append_assoc, List.cons_append, List.cons_append, cut_app 41 a _ h, cut_app 41 a _ h]
theorem hostK_keyR {n n' : Adr} (R : List Rul) (h1 : n.host = n'.host) (h2 : n.port = n'.port) : hostK (keyR n R) = hostK (keyR n' R) := by
  have hh : hostR n R = hostR n' R := by unfold hostR; rw [h1]
  have hp : pPart n = pPart n' := by unfold pPart; rw [h2]
  have e : ∀ m : Adr, keyR m R = (turnP (hostR m R) 46 44 ++ pPart m) ++ 41 :: ((if m.scheme = httpsB ∧ (1, []) ∉ R then [115] else []) ++ pathK m.path R ++ (if m.hasQ = true then queryK m.query R else [])) := by
    intro m
    unfold keyR
    simp [List.append_assoc]
  rw [e n, e n', hh, hp]
  exact hostK_app _ _ _
/-- A key in the scope of its host. -/
theorem inHost {home key : Bs} (h1 : (ofK home).2 = 0) (h2 : (ofK key).2 = 0) (h3 : hostK key = hostK home) : inC [(3, home, false)] key = (true, 0) := by
  have hs : scpE (3, home, false) = 0 := by
    unfold scpE
    rw [if_neg (by omega)]
    exact h1
  have hc : scpC [(3, home, false)] = 0 := by rw [scpC_one]; exact hs
  have hk : chkK [(3, home, false)] key = 0 := by rw [chk_yes hc]; exact h2
  unfold inC
  rw [if_neg (fun e => e hk)]
  have hp : covP (3, home, false) key = true := by
    unfold covP
    simp [h3]
  simp [inAt, scpAt, hp]
/-! Each once. -/
theorem nodup_len : ∀ (A B : List Bs), A.Nodup → (∀ x ∈ A, x ∈ B) → A.length ≤ B.length
  | [], B, _, _ => Nat.zero_le _
  | a :: A, B, hn, hs => by
    have ha : a ∈ B := hs a (List.mem_cons_self ..)
    have h1 := List.nodup_cons.1 hn
    have ih := nodup_len A (B.erase a) h1.2 fun x hx => (List.mem_erase_of_ne (fun e => h1.1 (by subst e; exact hx))).2 (hs x (List.mem_cons_of_mem _ hx))
    have hl := List.length_erase_of_mem ha
    have hp := List.length_pos_of_mem ha
    simp only [List.length_cons]
    omega
theorem nodup_same {A B : List Bs} (hA : A.Nodup) (hB : B.Nodup) (h : ∀ x, x ∈ A ↔ x ∈ B) : A.length = B.length :=
  Nat.le_antisymm (nodup_len A B hA fun x hx => (h x).1 hx) (nodup_len B A hB fun x hx => (h x).2 hx)
theorem bang (S : List Bs) (j : Nat) : S.toArray[j]! = S[j]?.getD [] := by
  rw [List.getElem!_toArray, List.getElem!_eq_getElem?_getD]
  rfl
theorem compact_in (S : List Bs) (hs : S.Pairwise (· ≤ ·)) : ∀ m, m ≤ S.length → (Lib.compactUpTo S.toArray m).Nodup ∧ ∀ x, x ∈ Lib.compactUpTo S.toArray m ↔ ∃ j, j < m ∧ S[j]?.getD [] = x
  | 0, _ => ⟨by simp [Lib.compactUpTo], fun x => by simp [Lib.compactUpTo]⟩
  | m + 1, hm => by
    obtain ⟨h1, h2⟩ := compact_in S hs m (by omega)
    have hle : ∀ i j, i ≤ j → j < S.length → S[i]?.getD [] ≤ S[j]?.getD [] := fun i j hij hj => by
      rw [List.getElem?_eq_getElem (by omega), List.getElem?_eq_getElem hj]
      rcases Nat.lt_or_ge i j with h | h
      · exact List.pairwise_iff_getElem.1 hs i j (by omega) hj h
      · obtain rfl : i = j := by omega
        exact List.le_refl _
    rw [Lib.compactUpTo_succ]
    have hk : Lib.keeps S.toArray m = decide (m = 0 ∨ S[m]?.getD [] ≠ S[m - 1]?.getD []) := by
      unfold Lib.keeps
      rw [bang, bang]
    by_cases hkk : m = 0 ∨ S[m]?.getD [] ≠ S[m - 1]?.getD []
    · rw [hk, decide_eq_true hkk, if_pos rfl, bang]
      have hno : ∀ j, j < m → S[j]?.getD [] ≠ S[m]?.getD [] := fun j hj e => by
        rcases hkk with h | h
        · omega
        · have a1 := hle j (m - 1) (by omega) (by omega)
          have a2 := hle (m - 1) m (by omega) (by omega)
          rw [e] at a1
          exact h (List.le_antisymm a1 a2)
      refine ⟨List.nodup_append.2 ⟨h1, by simp, fun a ha b hb => ?_⟩, fun x => ?_⟩
      · rw [List.mem_singleton] at hb
        obtain ⟨j, hj, e⟩ := (h2 a).1 ha
        rw [hb, ← e]
        exact hno j hj
      · rw [List.mem_append, List.mem_singleton, h2]
        constructor
        · rintro (⟨j, hj, e⟩ | e)
          · exact ⟨j, by omega, e⟩
          · exact ⟨m, by omega, e.symm⟩
        · rintro ⟨j, hj, e⟩
          rcases Nat.lt_or_ge j m with h | h
          · exact .inl ⟨j, h, e⟩
          · obtain rfl : j = m := by omega
            exact .inr e.symm
    · rw [hk, decide_eq_false hkk, if_neg (by decide), List.append_nil]
      obtain ⟨k1, k2⟩ := not_or.1 hkk
      have k3 := Classical.not_not.1 k2
      refine ⟨h1, fun x => ?_⟩
      rw [h2]
      constructor
      · rintro ⟨j, hj, e⟩
        exact ⟨j, by omega, e⟩
      · rintro ⟨j, hj, e⟩
        rcases Nat.lt_or_ge j m with h | h
        · exact ⟨j, h, e⟩
        · obtain rfl : j = m := by omega
          exact ⟨j - 1, by omega, k3.symm.trans e⟩
theorem sorted_le (K : List Bs) : (K.mergeSort fun x y => decide (x ≤ y)).Pairwise (· ≤ ·) := by
  have := List.pairwise_mergeSort (le := fun x y : Bs => decide (x ≤ y)) (fun a b c h1 h2 => by simp at *; exact List.le_trans h1 h2) (fun a b => by simp; exact List.le_total a b) K
  exact this.imp fun h => by simpa using h
theorem compact_sort (K : List Bs) : (Lib.compact (K.mergeSort fun x y => decide (x ≤ y))).Nodup ∧ ∀ x, x ∈ Lib.compact (K.mergeSort fun x y => decide (x ≤ y)) ↔ x ∈ K := by
  obtain ⟨h1, h2⟩ := compact_in _ (sorted_le K) _ (Nat.le_refl _)
  refine ⟨h1, fun x => ?_⟩
  have h3 := h2 x
  rw [show Lib.compact (K.mergeSort fun x y => decide (x ≤ y)) = Lib.compactUpTo (K.mergeSort fun x y => decide (x ≤ y)).toArray (K.mergeSort fun x y => decide (x ≤ y)).length from rfl, h3, ← List.mem_mergeSort (le := fun x y => decide (x ≤ y)), List.mem_iff_getElem?]
  constructor
  · rintro ⟨j, hj, e⟩
    exact ⟨j, by rw [← e, List.getElem?_eq_getElem hj]; rfl⟩
  · rintro ⟨j, e⟩
    exact ⟨j, (List.getElem?_eq_some_iff.1 e).1, by rw [e]; rfl⟩
theorem items_len {I : List Wnt} {K : List Bs} (hs : ascB (keyAt I) I.length) (h : ∀ k, hasK I k ↔ k ∈ K) : I.length = (Lib.compact (K.mergeSort fun x y => decide (x ≤ y))).length := by
  obtain ⟨h1, h2⟩ := compact_sort K
  have hA : (I.map (·.1)).Nodup := by
    refine List.pairwise_iff_getElem.2 fun i j hi hj hij => ?_
    simp only [List.length_map] at hi hj
    have := bl_ne (hs i j hij hj)
    simp only [keyAt, wntAt, List.getElem?_eq_getElem hi, List.getElem?_eq_getElem hj, Option.getD_some] at this
    simpa using this
  have := nodup_same hA h1 fun x => by
    rw [h2, ← h]
    unfold hasK
    simp
  simpa using this
/-- What is known of the frontier on the way. -/
structure Way (home : Bs) (f : Frt) (K : List Bs) : Prop where
  good : FrGood f
  ok : FrOk f
  has : ∀ k, hasK f.items k ↔ k ∈ K
  key : ∀ k ∈ K, (ofK k).2 = 0 ∧ hostK k = hostK home
theorem way_add {home : Bs} {f : Frt} {K : List Bs} {k : Bs} (h : Way home f K) (ha : addE f (k, 0, 0) = 0) (hh : hostK k = hostK home) (hl : k.length ≤ 140737488351232) : Way home { f with items := addI f.items (k, 0, 0) } (K ++ [k]) := by
  obtain ⟨a1, a2, a3⟩ := addE_zero ha
  have hk : (ofK k).2 = 0 := by
    unfold wntE at a2
    split at a2
    · rename_i h0; exact absurd a2 h0
    · rename_i h0; exact Classical.not_not.1 h0
  refine ⟨add_good h.good a2 a3, add_frOk h.ok h.good hl, fun x => ?_, fun x hx => ?_⟩
  · show hasK (addI f.items (k, 0, 0)) x ↔ _
    rw [addI_put, put_has, h.has, List.mem_append, List.mem_singleton]
    exact or_congr Iff.rfl ⟨fun e => e.symm, fun e => e.symm⟩
  · rcases List.mem_append.1 hx with hx | hx
    · exact h.key x hx
    · rw [List.mem_singleton.1 hx]
      exact ⟨hk, hh⟩
theorem way_item {home : Bs} {f : Frt} {K : List Bs} (h : Way home f K) (i : Nat) (hi : i < f.items.length) : (ofK (wntAt f.items i).1).2 = 0 ∧ hostK (wntAt f.items i).1 = hostK home := by
  refine h.key _ ((h.has _).1 ⟨wntAt f.items i, ?_, rfl⟩)
  simp only [wntAt, List.getElem?_eq_getElem hi, Option.getD_some]
  exact List.getElem_mem hi
theorem way_nil (home : Bs) : Way home ⟨[], [], 1, 1⟩ [] :=
  ⟨⟨⟨by simp, by simp⟩, ⟨by simp, by simp⟩, by simp, by simp, fun j hj => by simp at hj, fun i j h hj => by simp at hj, fun i j h hj => by simp at hj, fun j hj => by simp at hj, fun j hj => by simp at hj, fun j hj => by simp at hj, fun j hj => by simp at hj⟩, ⟨by simp, by simp, fun j => by simp [wntAt], fun j => by simp [hstAt, hst0], fun j => by simp [hstAt, hst0]⟩, fun k => by simp [hasK], fun k hk => by cases hk⟩
theorem keyS_len (a : Adr) (R : List Rul) : (keyS a R).1.length ≤ 20000000000 := by
  unfold keyS
  split
  · simp
  · rename_i h1
    split
    · simp
    · split
      · simp
      · obtain ⟨k1, k2, k3, k4⟩ := norm_parts (Classical.not_not.1 h1)
        generalize normA a = n at k1 k2 k3 k4 ⊢
        have hPl := pathK_len n.path R
        have hQl := queryK_len n.query R (by omega)
        have hXl : (hostR n R).length ≤ 2001 := by unfold hostR; split <;> first | omega | (simp; omega)
        have htl := turn_len (hostR n R) 46 44
        have hp : (pPart n).length ≤ 2002 := by unfold pPart; split <;> first | omega | (simp; done) | (simp; omega)
        have hs : (if n.scheme = httpsB ∧ (1, []) ∉ R then [115] else ([] : Bs)).length ≤ 1 := by split <;> simp
        have hq : (if n.hasQ = true then queryK n.query R else []).length ≤ 10000300003 := by split <;> first | omega | (simp; done) | (simp; omega)
        simp only [keyR, List.length_append, List.length_singleton]
        omega
end Go.Proofs.YtpmfmjgnhdfakaaGreatDoor
/-
  THE LIBRARY, OVER A ROW OF STRINGS: Compact hands the row's head back; Sort and Compact of nothing.
-/
set_option linter.unusedSimpArgs false
set_option linter.unusedVariables false
namespace Go.Proofs.YtpmfmjgnhdfakaaGreatDoor
open Go.Lw Go.RowKit
set_option maxRecDepth 100000
set_option maxHeartbeats 1000000

theorem compact_le (L : List Bs) : (Lib.compact L).length ≤ L.length := by
  unfold Lib.compact Lib.compactUpTo
  rw [List.length_map]
  exact Nat.le_trans (List.length_filter_le _ _) (by simp)
theorem rowFnR (id0 : Nat) {f : FuncId} (zs zs' : List Bs) (m : Nat) (hm : m ≤ zs'.length) (hne : zs ≠ []) (hl : zs'.length = zs.length) (hf : callB Tryz.prog f = true)
    (hc : ∀ (blk cap : Nat) (w : World), Sort.Holds encStr w blk 0 zs.toArray → blk < w.heap.size → zs.length ≤ cap → Calls Tryz.prog f #[.slice (some ⟨blk, 0, none⟩) zs.length cap] w fun e w' => e = .returned (.slice (some ⟨blk, 0, none⟩) m cap) ∧ ∃ n, w' = Sort.putRow encStr (Sort.ahead w n) blk 0 zs'.toArray) :
    FnMem Tryz.prog f [.os id0 zs.length] (ownS id0 zs) (.os id0 m) (ownS id0 zs') := by
  refine ⟨hf, fun ok h w vs hok hstd _ hlie ha => ?_⟩
  obtain ⟨hn, hr⟩ := ha
  obtain ⟨v0, e0, r0⟩ := hr 0 _ rfl
  have hob := hlie.obj id0 _ (look_own id0 _)
  obtain ⟨hsz, hcap, hx⟩ := hob
  rcases hx with ⟨_, he, _⟩ | ⟨b, cur, fz, hb, hheap, hth, hfz, hlen, hcs, hcells⟩
  · exact absurd (List.map_eq_nil_iff.1 he) hne
  obtain rfl := hfz rfl
  obtain ⟨hblt, hnok⟩ := hlie.blk id0 _ b (look_own id0 _) hb
  have hvs : vs = #[.slice (some ⟨b, 0, none⟩) zs.length (h id0).cap] := by
    have hv0 : v0 = .slice (some ⟨b, 0, none⟩) zs.length (h id0).cap := by
      cases r0
      simp [Hd.addr, hb]
    subst hv0
    apply Array.ext'
    apply List.ext_getElem?
    intro k
    match k with
    | 0 => simpa using e0
    | k + 1 =>
      rw [Array.getElem?_toList, Array.getElem?_eq_none (by rw [hn]; simp)]
      simp
  subst hvs
  simp only [List.length_map] at hlen
  have hat : ∀ j, j < zs.length → cur[j]? = some (encStr (zs[j]?.getD [])) := by
    intro j hj
    obtain ⟨_, h2⟩ := hcells j [str (zs[j]?.getD [])] (by simp [hj])
    obtain ⟨v, h3, h4⟩ := h2 0 _ rfl
    cases h4
    have h3' : cur[j * 1 + 0]? = some (encStr (zs[j]?.getD [])) := h3
    simpa only [Nat.mul_one, Nat.add_zero] using h3'
  have hH : Sort.Holds encStr w b 0 zs.toArray := by
    intro j hj
    have hj' : j < zs.length := by simpa using hj
    refine ⟨?_, ?_⟩
    · have := hat j hj'
      simp [World.cell?, hheap, this, hj']
    · simp [World.frozen?, hheap]
  refine (hc b _ w hH hblt hlen).mono fun e w' ⟨he, n, hw⟩ => ⟨_, ok, h, he, ?_⟩
  have hget : ∀ k, k < w.heap.size → w'.heap[k]? = (w.heap[k]?).map (if b = k then Sort.onCells (Sort.putCells encStr 0 zs'.toArray) else id) := by
    intro k hk
    rw [hw]
    simp only [Sort.putRow, Sort.mapBlock, Sort.ahead]
    rw [Array.getElem?_modify]
    by_cases e : b = k
    · simp [e]
    · simp [e]
  have hsize : w.heap.size ≤ w'.heap.size := by
    rw [hw]; simp [Sort.putRow, Sort.mapBlock, Sort.ahead]
  refine ⟨by rw [hw]; rfl, by rw [hw]; rfl, by rw [hw]; rfl, hsize, fun k hk hnl => ?_, fun _ h => h, fun k hk => ⟨Nat.lt_of_lt_of_le (hok k hk) hsize, .inl hk⟩, ?_, fun id o b' hid hb' => ?_, fun _ _ => rfl, ?_⟩
  · rw [hget k hk, if_neg (fun e => hnl ⟨id0, _, (look_own id0 _), by rw [← e]; exact hb⟩)]
    simp
  · have hcur : w'.heap[b]? = some (.cells (Sort.putCells encStr 0 zs'.toArray cur) 9 (0, 0)) := by
      rw [hget b hblt, if_pos rfl, hheap]
      rfl
    refine ⟨fun id o hid => ?_, fun id o b' hid hb' => ?_, fun id id' o o' b' hid hid' hne' => ?_⟩
    · simp only [ownS, Lw.look] at hid
      split at hid
      · rename_i e
        subst e; cases hid
        refine ⟨hsz, hcap, .inr ⟨b, _, (0, 0), hb, hcur, by simp [thaw], fun _ => rfl, by simp; omega, by simp [Sort.putCells, hcs], fun i l hi => ?_⟩⟩
        rw [List.getElem?_map] at hi
        obtain ⟨x, hx, rfl⟩ := Option.map_eq_some_iff.1 hi
        refine ⟨rfl, fun k d hd => ?_⟩
        have hk : k = 0 := by
          cases k with
          | zero => rfl
          | succ k => simp at hd
        subst hk
        cases hd
        have hil : i < zs'.length := (List.getElem?_eq_some_iff.1 hx).1
        have hic : i < cur.size := by
          have := hat i (by omega)
          exact (Array.getElem?_eq_some_iff.1 this).1
        refine ⟨.string (bs x), ?_, .lit _⟩
        simp only [Nat.mul_one, Nat.add_zero, Sort.putCells]
        rw [Array.getElem?_mapIdx, Array.getElem?_eq_getElem hic]
        simp only [Option.map_some, Nat.zero_le, true_and, Nat.zero_add, Nat.sub_zero]
        rw [if_pos (by simpa using hil)]
        have hxi : zs'.toArray[i]! = x := by
          rw [getElem!_pos _ i (by simpa using hil)]
          have := (List.getElem?_eq_some_iff.1 hx).2
          simpa using this
        rw [hxi]
        rfl
      · cases hid
    · simp only [ownS, Lw.look] at hid
      split at hid
      · rename_i e
        subst e
        rw [hb] at hb'
        cases hb'
        exact ⟨Nat.lt_of_lt_of_le hblt hsize, hnok⟩
      · cases hid
    · simp only [ownS, Lw.look] at hid hid'
      split at hid
      · split at hid'
        · rename_i e1 e2; exact absurd (e1.symm.trans e2) hne'
        · cases hid'
      · cases hid
  · simp only [ownS, Lw.look] at hid
    split at hid
    · rename_i e
      subst e
      exact .inr ⟨_, (look_own id0 _), hb'⟩
    · cases hid
  · have hr := RdV.os (w := w') (ok := ok) (h := h) id0 m (by omega)
    simpa [Hd.addr, hb] using hr
theorem compact_ok (L : List Bs) (hne : L ≠ []) (hl : L.length ≤ 1000000) : FnMem Tryz.prog 12 [.os 100001 L.length] (ownS 100001 L) (.os 100001 (Lib.compact L).length) (ownS 100001 (Lib.compact L ++ List.replicate (L.length - (Lib.compact L).length) [])) := by
  have hc := compact_le L
  exact rowFnR 100001 L _ _ (by simp) hne (by simp; omega) (by kernel_rfl) fun blk cap w hH hb hcap => Tryz.slices_Compact_string blk 0 cap L w hH (by omega) hcap
theorem one_sl {w : World} {ok : Nat → Prop} {f : Nat → List D} {vs : Array Value} (ha : ArgsRd w ok [.sl 0 f] vs) : ∃ A cap, vs = #[.slice A 0 cap] ∧ RdD w ok (.sl 0 f) (.slice A 0 cap) := by
  obtain ⟨v, e0, hr⟩ := ha.2 0 _ rfl
  have hn := ha.1
  have hvs : vs = #[v] := by
    apply Array.ext'
    apply List.ext_getElem?
    intro k
    match k with
    | 0 => simpa using e0
    | k + 1 =>
      rw [Array.getElem?_toList, Array.getElem?_eq_none (by rw [hn]; simp)]
      simp
  cases hr with
  | sl _ _ A cap size b off g h1 h2 h3 h4 h5 h6 => exact ⟨A, cap, hvs, .sl _ _ A cap size b off g h1 h2 h3 h4 h5 h6⟩
theorem sort0_ok (f : Nat → List D) : FnOk Tryz.prog 11 [.sl 0 f] (.tup []) :=
  ⟨by kernel_rfl, fun ok w vs _ hs ha => by
    obtain ⟨A, cap, rfl, _⟩ := one_sl ha
    exact (Tryz.slices_Sort_string_none A cap w).mono fun e w' ⟨he, hw⟩ => ⟨_, he, hw ▸ Below.refl _ _, .tup [] _ (fun _ => undef) rfl (fun i hi => by simp at hi) (fun i d hi => by simp at hi)⟩⟩
theorem compact0_ok (f : Nat → List D) : FnOk Tryz.prog 12 [.sl 0 f] (.sl 0 f) :=
  ⟨by kernel_rfl, fun ok w vs _ hs ha => by
    obtain ⟨A, cap, rfl, hr⟩ := one_sl ha
    refine (Tryz.slices_Compact_string_empty A cap w).mono fun e w' ⟨he, hw⟩ => ⟨_, he, hw ▸ Below.refl _ _, ?_⟩
    subst hw
    exact hr.mono (fun _ _ => rfl) (fun b hb => .inl hb)⟩
end Go.Proofs.YtpmfmjgnhdfakaaGreatDoor
/-
  TOP: the archive does one simple thing: the date of moment 0, the digest of nothing. (WITH run_drawN.)
-/
set_option linter.unusedSimpArgs false
set_option linter.unusedVariables false
namespace Go.Proofs.YtpmfmjgnhdfakaaGreatDoor
open Go.Lw Go.RowKit
set_option maxRecDepth 100000
set_option maxHeartbeats 1000000

theorem mLong_ok : FnOk Tryz.prog 151 [int 1970, int 1] (int 31) := by
  refine fnOk Tryz.func151 rfl (by kernel_rfl) Tryz.ntmps151 _ rfl (by simp) fun C hc => ?_
  repeat' (first | (first | refine Ya ?_ | refine Yb ?_ | refine Yc ?_ | refine Yd ?_ | refine Ye ?_ | refine Yf ?_ | refine Yg ?_ | refine Yh ?_ | refine Yi ?_ | refine Yj ?_ | refine Yk ?_ | refine Yl ?_ | refine Ym ?_ | refine Yn ?_ | refine Yo ?_ | refine Yp (h := ?_) | refine Yq ?_ | refine Yr ?_ | refine Ys ?_ | refine Zr hc (hk := ?_) | refine Zd hc (hk := ?_) | (refine Zc (ht := fun hb => ?_) (hf := fun hb => ?_) <;> (try simp at hb)) | fail) | (first | refine Zo hc (hk := ?_) | refine Zu hc (hk := ?_) | refine Ze hc (hk := ?_) | refine Zn hc (hk := ?_) | fail))
  all_goals try contradiction
  (refine Zl hc (hr := ?_))
  simp
theorem days1971_1 : FnOk Tryz.prog 128 [int 1971, int 1] (int 365) := by
  refine fnOk Tryz.func128 rfl (by kernel_rfl) Tryz.ntmps128 _ rfl (by simp) fun C hc => ?_
  repeat' (first | (first | refine Ya ?_ | refine Yb ?_ | refine Yc ?_ | refine Yd ?_ | refine Ye ?_ | refine Yf ?_ | refine Yg ?_ | refine Yh ?_ | refine Yi ?_ | refine Yj ?_ | refine Yk ?_ | refine Yl ?_ | refine Ym ?_ | refine Yn ?_ | refine Yo ?_ | refine Yp (h := ?_) | refine Yq ?_ | refine Yr ?_ | refine Ys ?_ | refine Zr hc (hk := ?_) | refine Zd hc (hk := ?_) | (refine Zc (ht := fun hb => ?_) (hf := fun hb => ?_) <;> (try simp at hb)) | fail) | (first | refine Zo hc (hk := ?_) | refine Zu hc (hk := ?_) | refine Ze hc (hk := ?_) | refine Zn hc (hk := ?_) | fail))
  refine ewp_loop (fun _ : Unit => ⟨[(0, .d (int 1971)), (1, .d (int 1)), (6, .d (int 365)), (7, .d (int 1))], []⟩) (fun _ => True) (fun _ => 0) () trivial (run_keep [0, 1, 6, 7] [] (by simp; exact Gives.mk) (by simp; exact Gives.mk)) ?_
  rintro ⟨⟩ _
  repeat' (first | (first | refine Ya ?_ | refine Yb ?_ | refine Yc ?_ | refine Yd ?_ | refine Ye ?_ | refine Yf ?_ | refine Yg ?_ | refine Yh ?_ | refine Yi ?_ | refine Yj ?_ | refine Yk ?_ | refine Yl ?_ | refine Ym ?_ | refine Yn ?_ | refine Yo ?_ | refine Yp (h := ?_) | refine Yq ?_ | refine Yr ?_ | refine Ys ?_ | refine Zr hc (hk := ?_) | refine Zd hc (hk := ?_) | (refine Zc (ht := fun hb => ?_) (hf := fun hb => ?_) <;> (try simp at hb)) | fail) | (first | refine Zo hc (hk := ?_) | refine Zu hc (hk := ?_) | refine Ze hc (hk := ?_) | refine Zn hc (hk := ?_) | fail))
  all_goals try contradiction
  (refine Zl hc (hr := ?_))
  simp
theorem days1970_1 : FnOk Tryz.prog 128 [int 1970, int 1] (int 0) := by
  refine fnOk Tryz.func128 rfl (by kernel_rfl) Tryz.ntmps128 _ rfl (by simp) fun C hc => ?_
  repeat' (first | (first | refine Ya ?_ | refine Yb ?_ | refine Yc ?_ | refine Yd ?_ | refine Ye ?_ | refine Yf ?_ | refine Yg ?_ | refine Yh ?_ | refine Yi ?_ | refine Yj ?_ | refine Yk ?_ | refine Yl ?_ | refine Ym ?_ | refine Yn ?_ | refine Yo ?_ | refine Yp (h := ?_) | refine Yq ?_ | refine Yr ?_ | refine Ys ?_ | refine Zr hc (hk := ?_) | refine Zd hc (hk := ?_) | (refine Zc (ht := fun hb => ?_) (hf := fun hb => ?_) <;> (try simp at hb)) | fail) | (first | refine Zo hc (hk := ?_) | refine Zu hc (hk := ?_) | refine Ze hc (hk := ?_) | refine Zn hc (hk := ?_) | fail))
  refine ewp_loop (fun _ : Unit => ⟨[(0, .d (int 1970)), (1, .d (int 1)), (6, .d (int 0)), (7, .d (int 1))], []⟩) (fun _ => True) (fun _ => 0) () trivial (run_keep [0, 1, 6, 7] [] (by simp; exact Gives.mk) (by simp; exact Gives.mk)) ?_
  rintro ⟨⟩ _
  repeat' (first | (first | refine Ya ?_ | refine Yb ?_ | refine Yc ?_ | refine Yd ?_ | refine Ye ?_ | refine Yf ?_ | refine Yg ?_ | refine Yh ?_ | refine Yi ?_ | refine Yj ?_ | refine Yk ?_ | refine Yl ?_ | refine Ym ?_ | refine Yn ?_ | refine Yo ?_ | refine Yp (h := ?_) | refine Yq ?_ | refine Yr ?_ | refine Ys ?_ | refine Zr hc (hk := ?_) | refine Zd hc (hk := ?_) | (refine Zc (ht := fun hb => ?_) (hf := fun hb => ?_) <;> (try simp at hb)) | fail) | (first | refine Zo hc (hk := ?_) | refine Zu hc (hk := ?_) | refine Ze hc (hk := ?_) | refine Zn hc (hk := ?_) | fail))
  all_goals try contradiction
  (refine Zl hc (hr := ?_))
  simp
theorem days1970_2 : FnOk Tryz.prog 128 [int 1970, int 2] (int 31) := by
  refine fnOk Tryz.func128 rfl (by kernel_rfl) Tryz.ntmps128 _ rfl (by simp) fun C hc => ?_
  repeat' (first | (first | refine Ya ?_ | refine Yb ?_ | refine Yc ?_ | refine Yd ?_ | refine Ye ?_ | refine Yf ?_ | refine Yg ?_ | refine Yh ?_ | refine Yi ?_ | refine Yj ?_ | refine Yk ?_ | refine Yl ?_ | refine Ym ?_ | refine Yn ?_ | refine Yo ?_ | refine Yp (h := ?_) | refine Yq ?_ | refine Yr ?_ | refine Ys ?_ | refine Zr hc (hk := ?_) | refine Zd hc (hk := ?_) | (refine Zc (ht := fun hb => ?_) (hf := fun hb => ?_) <;> (try simp at hb)) | fail) | (first | refine Zo hc (hk := ?_) | refine Zu hc (hk := ?_) | refine Ze hc (hk := ?_) | refine Zn hc (hk := ?_) | fail))
  refine ewp_loop (fun k : Nat => ⟨[(0, .d (int 1970)), (1, .d (int 2)), (6, .d (int (31 * k))), (7, .d (int (1 + k)))], []⟩) (fun k => k ≤ 1) (fun k => 1 - k) 0 (by simp) (run_keep [0, 1, 6, 7] [] (by simp; exact Gives.mk) (by simp; exact Gives.mk)) ?_
  intro k hk
  have hM := mLong_ok
  obtain rfl | rfl : k = 0 ∨ k = 1 := by omega
  · repeat' (first | (first | refine Ya ?_ | refine Yb ?_ | refine Yc ?_ | refine Yd ?_ | refine Ye ?_ | refine Yf ?_ | refine Yg ?_ | refine Yh ?_ | refine Yi ?_ | refine Yj ?_ | refine Yk ?_ | refine Yl ?_ | refine Ym ?_ | refine Yn ?_ | refine Yo ?_ | refine Yp (h := ?_) | refine Yq ?_ | refine Yr ?_ | refine Ys ?_ | refine Zr hc (hk := ?_) | refine Zd hc (hk := ?_) | (refine Zc (ht := fun hb => ?_) (hf := fun hb => ?_) <;> (try simp at hb)) | fail) | (first | refine Zw hc (hf := by exact hM) (hk := ?_) | refine Zq hc (hf := by exact hM) (hk := ?_) | refine Zo hc (hk := ?_) | refine Zu hc (hk := ?_) | refine Ze hc (hk := ?_) | refine Zn hc (hk := ?_) | fail))
    all_goals try contradiction
    exact ⟨1, by omega, by omega, run_back [0, 1, 6, 7] [] (by simp; exact Gives.mk) (by simp; exact Gives.mk) (by simp)⟩
  · repeat' (first | (first | refine Ya ?_ | refine Yb ?_ | refine Yc ?_ | refine Yd ?_ | refine Ye ?_ | refine Yf ?_ | refine Yg ?_ | refine Yh ?_ | refine Yi ?_ | refine Yj ?_ | refine Yk ?_ | refine Yl ?_ | refine Ym ?_ | refine Yn ?_ | refine Yo ?_ | refine Yp (h := ?_) | refine Yq ?_ | refine Yr ?_ | refine Ys ?_ | refine Zr hc (hk := ?_) | refine Zd hc (hk := ?_) | (refine Zc (ht := fun hb => ?_) (hf := fun hb => ?_) <;> (try simp at hb)) | fail) | (first | refine Zw hc (hf := by exact hM) (hk := ?_) | refine Zq hc (hf := by exact hM) (hk := ?_) | refine Zo hc (hk := ?_) | refine Zu hc (hk := ?_) | refine Ze hc (hk := ?_) | refine Zn hc (hk := ?_) | fail))
    all_goals try contradiction
    (refine Zl hc (hr := ?_))
    simp
abbrev date0 : D := .agg [int 1970, int 1, int 1, int 0, int 0, int 0]
theorem dateOf0_ok : FnOk Tryz.prog 95 [int 0] date0 := by
  refine fnOk Tryz.func95 rfl (by kernel_rfl) Tryz.ntmps95 _ rfl (by simp) fun C hc => ?_
  have h1 := days1971_1
  have h2 := days1970_1
  have h3 := days1970_2
  repeat' (first | (first | refine Ya ?_ | refine Yb ?_ | refine Yc ?_ | refine Yd ?_ | refine Ye ?_ | refine Yf ?_ | refine Yg ?_ | refine Yh ?_ | refine Yi ?_ | refine Yj ?_ | refine Yk ?_ | refine Yl ?_ | refine Ym ?_ | refine Yn ?_ | refine Yo ?_ | refine Yp (h := ?_) | refine Yq ?_ | refine Yr ?_ | refine Ys ?_ | refine Zr hc (hk := ?_) | refine Zd hc (hk := ?_) | (refine Zc (ht := fun hb => ?_) (hf := fun hb => ?_) <;> (try simp at hb)) | fail) | (first | refine Zo hc (hk := ?_) | refine Zu hc (hk := ?_) | refine Ze hc (hk := ?_) | refine Zn hc (hk := ?_) | fail))
  refine ewp_loop (fun _ : Unit => ⟨[(2, .bp 2 0), (3, .d (int 0)), (5, .bp 5 0)], [(2, .box 137 [.d (int 0), .d (int 0), .d (int 0), .d (int 0), .d (int 0), .d (int 0)]), (5, .box 137 [.d (int 1970), .d (int 1), .d (int 0), .d (int 0), .d (int 0), .d (int 0)])]⟩) (fun _ => True) (fun _ => 0) () trivial (run_keep [2, 3, 5] [2, 5] (by simp; exact Gives.mk) (by simp; exact Gives.mk)) ?_
  rintro ⟨⟩ _
  repeat' (first | (first | refine Ya ?_ | refine Yb ?_ | refine Yc ?_ | refine Yd ?_ | refine Ye ?_ | refine Yf ?_ | refine Yg ?_ | refine Yh ?_ | refine Yi ?_ | refine Yj ?_ | refine Yk ?_ | refine Yl ?_ | refine Ym ?_ | refine Yn ?_ | refine Yo ?_ | refine Yp (h := ?_) | refine Yq ?_ | refine Yr ?_ | refine Ys ?_ | refine Zr hc (hk := ?_) | refine Zd hc (hk := ?_) | (refine Zc (ht := fun hb => ?_) (hf := fun hb => ?_) <;> (try simp at hb)) | fail) | (first | refine Zw hc (hf := by exact h1) (hk := ?_) | refine Zq hc (hf := by exact h1) (hk := ?_) | refine Zo hc (hk := ?_) | refine Zu hc (hk := ?_) | refine Ze hc (hk := ?_) | refine Zn hc (hk := ?_) | fail))
  all_goals try contradiction
  refine ewp_loop (fun _ : Unit => ⟨[(2, .bp 2 0), (3, .d (int 0)), (5, .bp 5 0)], [(2, .box 137 [.d (int 0), .d (int 0), .d (int 0), .d (int 0), .d (int 0), .d (int 0)]), (5, .box 137 [.d (int 1970), .d (int 1), .d (int 0), .d (int 0), .d (int 0), .d (int 0)])]⟩) (fun _ => True) (fun _ => 0) () trivial (run_back [2, 3, 5] [2, 5] (by simp; exact Gives.mk) (by simp; exact Gives.mk) (by simp)) ?_
  rintro ⟨⟩ _
  repeat' (first | (first | refine Ya ?_ | refine Yb ?_ | refine Yc ?_ | refine Yd ?_ | refine Ye ?_ | refine Yf ?_ | refine Yg ?_ | refine Yh ?_ | refine Yi ?_ | refine Yj ?_ | refine Yk ?_ | refine Yl ?_ | refine Ym ?_ | refine Yn ?_ | refine Yo ?_ | refine Yp (h := ?_) | refine Yq ?_ | refine Yr ?_ | refine Ys ?_ | refine Zr hc (hk := ?_) | refine Zd hc (hk := ?_) | (refine Zc (ht := fun hb => ?_) (hf := fun hb => ?_) <;> (try simp at hb)) | fail) | (first | refine Zw hc (hf := by exact h3) (hk := ?_) | refine Zq hc (hf := by exact h3) (hk := ?_) | refine Zo hc (hk := ?_) | refine Zu hc (hk := ?_) | refine Ze hc (hk := ?_) | refine Zn hc (hk := ?_) | fail))
  all_goals try contradiction
  repeat' (first | (first | refine Ya ?_ | refine Yb ?_ | refine Yc ?_ | refine Yd ?_ | refine Ye ?_ | refine Yf ?_ | refine Yg ?_ | refine Yh ?_ | refine Yi ?_ | refine Yj ?_ | refine Yk ?_ | refine Yl ?_ | refine Ym ?_ | refine Yn ?_ | refine Yo ?_ | refine Yp (h := ?_) | refine Yq ?_ | refine Yr ?_ | refine Ys ?_ | refine Zr hc (hk := ?_) | refine Zd hc (hk := ?_) | (refine Zc (ht := fun hb => ?_) (hf := fun hb => ?_) <;> (try simp at hb)) | fail) | (first | refine Zw hc (hf := by exact h2) (hk := ?_) | refine Zq hc (hf := by exact h2) (hk := ?_) | refine Zo hc (hk := ?_) | refine Zu hc (hk := ?_) | refine Ze hc (hk := ?_) | refine Zn hc (hk := ?_) | fail))
  all_goals try contradiction
  (refine Zl hc (hr := ?_))
  simp
theorem repOne_ok (s : Bs) : FnOk Tryz.prog 130 [str s, int 1] (str s) :=
  fnOk_litsB [.string (bs s), .int .i64 1] (by kernel_rfl) fun w hs => by
    have h := Tryz.strings_Repeat_one (bs s) w
    exact h.mono fun e w' ⟨he, hw⟩ => ⟨he, hw ▸ Below.refl _ _⟩
theorem repZero_ok (s : Bs) : FnOk Tryz.prog 130 [str s, int 0] (str []) :=
  fnOk_litsB [.string (bs s), .int .i64 0] (by kernel_rfl) fun w hs => by
    have h := Tryz.strings_Repeat_zero (bs s) w
    exact h.mono fun e w' ⟨he, hw⟩ => ⟨he, hw ▸ Below.refl _ _⟩
theorem padded1_ok : FnOk Tryz.prog 97 [int 1, int 2] (str [48, 49]) := by
  refine fnOk Tryz.func97 rfl (by kernel_rfl) Tryz.ntmps97 _ rfl (by simp) fun C hc => ?_
  have hI := itoa_ok 1 (by omega)
  rw [show Lib.decDigits 1 = [49] from by decide +kernel] at hI
  have hR := repOne_ok [48]
  repeat' (first | (first | refine Ya ?_ | refine Yb ?_ | refine Yc ?_ | refine Yd ?_ | refine Ye ?_ | refine Yf ?_ | refine Yg ?_ | refine Yh ?_ | refine Yi ?_ | refine Yj ?_ | refine Yk ?_ | refine Yl ?_ | refine Ym ?_ | refine Yn ?_ | refine Yo ?_ | refine Yp (h := ?_) | refine Yq ?_ | refine Yr ?_ | refine Ys ?_ | refine Zr hc (hk := ?_) | refine Zd hc (hk := ?_) | (refine Zc (ht := fun hb => ?_) (hf := fun hb => ?_) <;> (try simp at hb)) | fail) | (first | refine Zw hc (hf := by first | exact hI | exact hR) (hk := ?_) | refine Zq hc (hf := by first | exact hI | exact hR) (hk := ?_) | refine Zo hc (hk := ?_) | refine Zu hc (hk := ?_) | refine Ze hc (hk := ?_) | refine Zn hc (hk := ?_) | fail))
  (refine Zl hc (hr := ?_))
  simp
theorem padded1970_ok : FnOk Tryz.prog 97 [int 1970, int 4] (str [49, 57, 55, 48]) := by
  refine fnOk Tryz.func97 rfl (by kernel_rfl) Tryz.ntmps97 _ rfl (by simp) fun C hc => ?_
  have hI := itoa_ok 1970 (by omega)
  rw [show Lib.decDigits 1970 = [49, 57, 55, 48] from by decide +kernel] at hI
  have hR := repZero_ok [48]
  repeat' (first | (first | refine Ya ?_ | refine Yb ?_ | refine Yc ?_ | refine Yd ?_ | refine Ye ?_ | refine Yf ?_ | refine Yg ?_ | refine Yh ?_ | refine Yi ?_ | refine Yj ?_ | refine Yk ?_ | refine Yl ?_ | refine Ym ?_ | refine Yn ?_ | refine Yo ?_ | refine Yp (h := ?_) | refine Yq ?_ | refine Yr ?_ | refine Ys ?_ | refine Zr hc (hk := ?_) | refine Zd hc (hk := ?_) | (refine Zc (ht := fun hb => ?_) (hf := fun hb => ?_) <;> (try simp at hb)) | fail) | (first | refine Zw hc (hf := by first | exact hI | exact hR) (hk := ?_) | refine Zq hc (hf := by first | exact hI | exact hR) (hk := ?_) | refine Zo hc (hk := ?_) | refine Zu hc (hk := ?_) | refine Ze hc (hk := ?_) | refine Zn hc (hk := ?_) | fail))
  (refine Zl hc (hr := ?_))
  simp
theorem padded0_ok : FnOk Tryz.prog 97 [int 0, int 2] (str [48, 48]) := by
  refine fnOk Tryz.func97 rfl (by kernel_rfl) Tryz.ntmps97 _ rfl (by simp) fun C hc => ?_
  have hI := itoa_ok 0 (by omega)
  rw [show Lib.decDigits 0 = [48] from by decide +kernel] at hI
  have hR := repOne_ok [48]
  repeat' (first | (first | refine Ya ?_ | refine Yb ?_ | refine Yc ?_ | refine Yd ?_ | refine Ye ?_ | refine Yf ?_ | refine Yg ?_ | refine Yh ?_ | refine Yi ?_ | refine Yj ?_ | refine Yk ?_ | refine Yl ?_ | refine Ym ?_ | refine Yn ?_ | refine Yo ?_ | refine Yp (h := ?_) | refine Yq ?_ | refine Yr ?_ | refine Ys ?_ | refine Zr hc (hk := ?_) | refine Zd hc (hk := ?_) | (refine Zc (ht := fun hb => ?_) (hf := fun hb => ?_) <;> (try simp at hb)) | fail) | (first | refine Zw hc (hf := by first | exact hI | exact hR) (hk := ?_) | refine Zq hc (hf := by first | exact hI | exact hR) (hk := ?_) | refine Zo hc (hk := ?_) | refine Zu hc (hk := ?_) | refine Ze hc (hk := ?_) | refine Zn hc (hk := ?_) | fail))
  (refine Zl hc (hr := ?_))
  simp
abbrev weekD : D := .sl 7 fun i => ([[str [77, 111, 110]], [str [84, 117, 101]], [str [87, 101, 100]], [str [84, 104, 117]], [str [70, 114, 105]], [str [83, 97, 116]], [str [83, 117, 110]]] : List (List D))[i]?.getD [str []]
abbrev monD : D := .sl 12 fun i => ([[str [74, 97, 110]], [str [70, 101, 98]], [str [77, 97, 114]], [str [65, 112, 114]], [str [77, 97, 121]], [str [74, 117, 110]], [str [74, 117, 108]], [str [65, 117, 103]], [str [83, 101, 112]], [str [79, 99, 116]], [str [78, 111, 118]], [str [68, 101, 99]]] : List (List D))[i]?.getD [str []]
theorem weekdays_ok : FnOk Tryz.prog 96 [] weekD := by
  refine fnOk Tryz.func96 rfl (by kernel_rfl) Tryz.ntmps96 _ rfl (by simp) fun C hc => ?_
  repeat' (first | refine Ya ?_ | refine Yb ?_ | refine Yc ?_ | refine Yd ?_ | refine Ye ?_ | refine Yf ?_ | refine Yg ?_ | refine Yh ?_ | refine Yi ?_ | refine Yj ?_ | refine Yk ?_ | refine Yl ?_ | refine Ym ?_ | refine Yn ?_ | refine Yo ?_ | refine Yp (h := ?_) | refine Yq ?_ | refine Yr ?_ | refine Ys ?_ | refine Zr hc (hk := ?_) | refine Zd hc (hk := ?_) | (refine Zc (ht := fun hb => ?_) (hf := fun hb => ?_) <;> (try simp at hb)) | fail)
  (refine Zl hc (hr := ?_))
  simp
theorem months_ok : FnOk Tryz.prog 98 [] monD := by
  refine fnOk Tryz.func98 rfl (by kernel_rfl) Tryz.ntmps98 _ rfl (by simp) fun C hc => ?_
  repeat' (first | refine Ya ?_ | refine Yb ?_ | refine Yc ?_ | refine Yd ?_ | refine Ye ?_ | refine Yf ?_ | refine Yg ?_ | refine Yh ?_ | refine Yi ?_ | refine Yj ?_ | refine Yk ?_ | refine Yl ?_ | refine Ym ?_ | refine Yn ?_ | refine Yo ?_ | refine Yp (h := ?_) | refine Yq ?_ | refine Yr ?_ | refine Ys ?_ | refine Zr hc (hk := ?_) | refine Zd hc (hk := ?_) | (refine Zc (ht := fun hb => ?_) (hf := fun hb => ?_) <;> (try simp at hb)) | fail)
  (refine Zl hc (hr := ?_))
  simp
abbrev text0 : Bs := [84, 104, 117, 44, 32, 48, 49, 32, 74, 97, 110, 32, 49, 57, 55, 48, 32, 48, 48, 58, 48, 48, 58, 48, 48, 32, 71, 77, 84]
theorem dateText0_ok : FnOk Tryz.prog 46 [int 0] (str text0) := by
  refine fnOk Tryz.func46 rfl (by kernel_rfl) Tryz.ntmps46 _ rfl (by simp) fun C hc => ?_
  have h1 := dateOf0_ok
  have h2 := weekdays_ok
  have h3 := months_ok
  have h4 := padded1_ok
  have h5 := padded1970_ok
  have h6 := padded0_ok
  repeat' (first | (first | refine Ya ?_ | refine Yb ?_ | refine Yc ?_ | refine Yd ?_ | refine Ye ?_ | refine Yf ?_ | refine Yg ?_ | refine Yh ?_ | refine Yi ?_ | refine Yj ?_ | refine Yk ?_ | refine Yl ?_ | refine Ym ?_ | refine Yn ?_ | refine Yo ?_ | refine Yp (h := ?_) | refine Yq ?_ | refine Yr ?_ | refine Ys ?_ | refine Zr hc (hk := ?_) | refine Zd hc (hk := ?_) | (refine Zc (ht := fun hb => ?_) (hf := fun hb => ?_) <;> (try simp at hb)) | fail) | (first | refine Zw hc (hf := by exact h1) (hk := ?_) | refine Zq hc (hf := by exact h1) (hk := ?_) | refine Zo hc (hk := ?_) | refine Zu hc (hk := ?_) | refine Ze hc (hk := ?_) | fail))
  refine ewp_le (run_keep [0, 3] [3] (by simp; exact Gives.mk) (by simp; exact Gives.mk)) ?_
  (apply Pd 42 hc; (focus (refine Pr 1 hc (hk := ?_); refine Pr 2 hc (hk := ?_); refine Pr 3 hc (hk := ?_); refine Pr 4 hc (hk := ?_); refine Pr 8 hc (hk := ?_); refine Pr 9 hc (hk := ?_); refine Pr 14 hc (hk := ?_); refine Pr 15 hc (hk := ?_); refine Pr 16 hc (hk := ?_); refine Pr 21 hc (hk := ?_); refine Pr 22 hc (hk := ?_); refine Pr 26 hc (hk := ?_); refine Pr 27 hc (hk := ?_); refine Pr 31 hc (hk := ?_); refine Pr 32 hc (hk := ?_); refine Pr 36 hc (hk := ?_); refine Pr 37 hc (hk := ?_); refine Pc 0 hc (hf := by first | exact h2 | exact h3 | exact h4 | exact h5 | exact h6) (hk := ?_); refine Pr 5 hc (hk := ?_); refine Pr 6 hc (hk := ?_); refine Pr 7 hc (hk := ?_); refine Pc 10 hc (hf := by first | exact h2 | exact h3 | exact h4 | exact h5 | exact h6) (hk := ?_); refine Pr 11 hc (hk := ?_); refine Pr 12 hc (hk := ?_); refine Pc 13 hc (hf := by first | exact h2 | exact h3 | exact h4 | exact h5 | exact h6) (hk := ?_); refine Pr 17 hc (hk := ?_); refine Pr 18 hc (hk := ?_); refine Pr 19 hc (hk := ?_); refine Pr 20 hc (hk := ?_); refine Pc 23 hc (hf := by first | exact h2 | exact h3 | exact h4 | exact h5 | exact h6) (hk := ?_); refine Pr 24 hc (hk := ?_); refine Pr 25 hc (hk := ?_); refine Pc 28 hc (hf := by first | exact h2 | exact h3 | exact h4 | exact h5 | exact h6) (hk := ?_); refine Pr 29 hc (hk := ?_); refine Pr 30 hc (hk := ?_); refine Pc 33 hc (hf := by first | exact h2 | exact h3 | exact h4 | exact h5 | exact h6) (hk := ?_); refine Pr 34 hc (hk := ?_); refine Pr 35 hc (hk := ?_); refine Pc 38 hc (hf := by first | exact h2 | exact h3 | exact h4 | exact h5 | exact h6) (hk := ?_); refine Pr 39 hc (hk := ?_); refine Pr 40 hc (hk := ?_); refine Pr 41 hc (hk := ?_); refine Pz (hk := ?_); exact run_keep [2] [] (by simp; try exact Gives.mk) (by simp; try exact Gives.mk))))
  repeat' (first | (first | refine Ya ?_ | refine Yb ?_ | refine Yc ?_ | refine Yd ?_ | refine Ye ?_ | refine Yf ?_ | refine Yg ?_ | refine Yh ?_ | refine Yi ?_ | refine Yj ?_ | refine Yk ?_ | refine Yl ?_ | refine Ym ?_ | refine Yn ?_ | refine Yo ?_ | refine Yp (h := ?_) | refine Yq ?_ | refine Yr ?_ | refine Ys ?_ | refine Zr hc (hk := ?_) | refine Zd hc (hk := ?_) | (refine Zc (ht := fun hb => ?_) (hf := fun hb => ?_) <;> (try simp at hb)) | fail) | (first | refine Zo hc (hk := ?_) | refine Zu hc (hk := ?_) | refine Ze hc (hk := ?_) | fail))
  (refine Zl hc (hr := ?_))
  simp
theorem isMoment0_ok : FnOk Tryz.prog 45 [int 0] (tru true) := by
  refine fnOk Tryz.func45 rfl (by kernel_rfl) Tryz.ntmps45 _ rfl (by simp) fun C hc => ?_
  repeat' (first | (first | refine Ya ?_ | refine Yb ?_ | refine Yc ?_ | refine Yd ?_ | refine Ye ?_ | refine Yf ?_ | refine Yg ?_ | refine Yh ?_ | refine Yi ?_ | refine Yj ?_ | refine Yk ?_ | refine Yl ?_ | refine Ym ?_ | refine Yn ?_ | refine Yo ?_ | refine Yp (h := ?_) | refine Yq ?_ | refine Yr ?_ | refine Ys ?_ | refine Zr hc (hk := ?_) | refine Zd hc (hk := ?_) | (refine Zc (ht := fun hb => ?_) (hf := fun hb => ?_) <;> (try simp at hb)) | fail) | (first | refine Zo hc (hk := ?_) | refine Zu hc (hk := ?_) | refine Ze hc (hk := ?_) | refine Zn hc (hk := ?_) | fail))
  (refine Zl hc (hr := ?_))
  simp
theorem dateTextF0_ok : FnOk Tryz.prog 19 [int 0] (.tup [str text0, int 0]) := by
  refine fnOk Tryz.func19 rfl (by kernel_rfl) Tryz.ntmps19 _ rfl (by simp) fun C hc => ?_
  have h1 := isMoment0_ok
  have h2 := dateText0_ok
  repeat' (first | (first | refine Ya ?_ | refine Yb ?_ | refine Yc ?_ | refine Yd ?_ | refine Ye ?_ | refine Yf ?_ | refine Yg ?_ | refine Yh ?_ | refine Yi ?_ | refine Yj ?_ | refine Yk ?_ | refine Yl ?_ | refine Ym ?_ | refine Yn ?_ | refine Yo ?_ | refine Yp (h := ?_) | refine Yq ?_ | refine Yr ?_ | refine Ys ?_ | refine Zr hc (hk := ?_) | refine Zd hc (hk := ?_) | (refine Zc (ht := fun hb => ?_) (hf := fun hb => ?_) <;> (try simp at hb)) | fail) | (first | refine Zw hc (hf := by first | exact h1 | exact h2) (hk := ?_) | refine Zq hc (hf := by first | exact h1 | exact h2) (hk := ?_) | refine Zo hc (hk := ?_) | refine Zu hc (hk := ?_) | refine Ze hc (hk := ?_) | refine Zn hc (hk := ?_) | fail))
  all_goals try contradiction
  (refine Zl hc (hr := ?_))
  simp
/-! The digest of nothing. -/
abbrev dig0 : Bs := [99, 98, 102, 50, 57, 99, 101, 52, 56, 52, 50, 50, 50, 51, 50, 53]
def numA (i : Nat) : Int := (14695981039346656037 / 16 ^ i : Nat)
def hexA (i : Nat) : Bs := List.replicate (16 - i) 0 ++ dig0.drop (16 - i)
theorem mixed0_ok : FnOk Tryz.prog 48 [.lit (.slice none 0 0)] (.lit (.int .u64 14695981039346656037)) := by
  refine fnOk Tryz.func48 rfl (by kernel_rfl) Tryz.ntmps48 _ rfl (by simp) fun C hc => ?_
  repeat' (first | (first | refine Ya ?_ | refine Yb ?_ | refine Yc ?_ | refine Yd ?_ | refine Ye ?_ | refine Yf ?_ | refine Yg ?_ | refine Yh ?_ | refine Yi ?_ | refine Yj ?_ | refine Yk ?_ | refine Yl ?_ | refine Ym ?_ | refine Yn ?_ | refine Yo ?_ | refine Yp (h := ?_) | refine Yq ?_ | refine Yr ?_ | refine Ys ?_ | refine Zr hc (hk := ?_) | refine Zd hc (hk := ?_) | (refine Zc (ht := fun hb => ?_) (hf := fun hb => ?_) <;> (try simp at hb)) | fail) | (first | refine Zo hc (hk := ?_) | refine Zu hc (hk := ?_) | refine Ze hc (hk := ?_) | refine Zn hc (hk := ?_) | fail))
  refine ewp_loop (fun _ : Unit => ⟨[(3, .d (.lit (.int .u64 14695981039346656037))), (6, .d (int 0)), (7, .d (int 0))], []⟩) (fun _ => True) (fun _ => 0) () trivial (run_keep [3, 6, 7] [] (by simp; exact Gives.mk) (by simp; exact Gives.mk)) ?_
  rintro ⟨⟩ _
  repeat' (first | (first | refine Ya ?_ | refine Yb ?_ | refine Yc ?_ | refine Yd ?_ | refine Ye ?_ | refine Yf ?_ | refine Yg ?_ | refine Yh ?_ | refine Yi ?_ | refine Yj ?_ | refine Yk ?_ | refine Yl ?_ | refine Ym ?_ | refine Yn ?_ | refine Yo ?_ | refine Yp (h := ?_) | refine Yq ?_ | refine Yr ?_ | refine Ys ?_ | refine Zr hc (hk := ?_) | refine Zd hc (hk := ?_) | (refine Zc (ht := fun hb => ?_) (hf := fun hb => ?_) <;> (try simp at hb)) | fail) | (first | refine Zo hc (hk := ?_) | refine Zu hc (hk := ?_) | refine Ze hc (hk := ?_) | refine Zn hc (hk := ?_) | fail))
  all_goals try contradiction
  (refine Zl hc (hr := ?_))
  simp
theorem numA_0 : numA 0 = 14695981039346656037 := by decide +kernel
theorem hexA_0 : hexA 0 = [0, 0, 0, 0, 0, 0, 0, 0, 0, 0, 0, 0, 0, 0, 0, 0] := by decide +kernel
theorem numA_1 : numA 1 = 918498814959166002 := by decide +kernel
theorem hexA_1 : hexA 1 = [0, 0, 0, 0, 0, 0, 0, 0, 0, 0, 0, 0, 0, 0, 0, 53] := by decide +kernel
theorem numA_2 : numA 2 = 57406175934947875 := by decide +kernel
theorem hexA_2 : hexA 2 = [0, 0, 0, 0, 0, 0, 0, 0, 0, 0, 0, 0, 0, 0, 50, 53] := by decide +kernel
theorem numA_3 : numA 3 = 3587885995934242 := by decide +kernel
theorem hexA_3 : hexA 3 = [0, 0, 0, 0, 0, 0, 0, 0, 0, 0, 0, 0, 0, 51, 50, 53] := by decide +kernel
theorem numA_4 : numA 4 = 224242874745890 := by decide +kernel
theorem hexA_4 : hexA 4 = [0, 0, 0, 0, 0, 0, 0, 0, 0, 0, 0, 0, 50, 51, 50, 53] := by decide +kernel
theorem numA_5 : numA 5 = 14015179671618 := by decide +kernel
theorem hexA_5 : hexA 5 = [0, 0, 0, 0, 0, 0, 0, 0, 0, 0, 0, 50, 50, 51, 50, 53] := by decide +kernel
theorem numA_6 : numA 6 = 875948729476 := by decide +kernel
theorem hexA_6 : hexA 6 = [0, 0, 0, 0, 0, 0, 0, 0, 0, 0, 50, 50, 50, 51, 50, 53] := by decide +kernel
theorem numA_7 : numA 7 = 54746795592 := by decide +kernel
theorem hexA_7 : hexA 7 = [0, 0, 0, 0, 0, 0, 0, 0, 0, 52, 50, 50, 50, 51, 50, 53] := by decide +kernel
theorem numA_8 : numA 8 = 3421674724 := by decide +kernel
theorem hexA_8 : hexA 8 = [0, 0, 0, 0, 0, 0, 0, 0, 56, 52, 50, 50, 50, 51, 50, 53] := by decide +kernel
theorem numA_9 : numA 9 = 213854670 := by decide +kernel
theorem hexA_9 : hexA 9 = [0, 0, 0, 0, 0, 0, 0, 52, 56, 52, 50, 50, 50, 51, 50, 53] := by decide +kernel
theorem numA_10 : numA 10 = 13365916 := by decide +kernel
theorem hexA_10 : hexA 10 = [0, 0, 0, 0, 0, 0, 101, 52, 56, 52, 50, 50, 50, 51, 50, 53] := by decide +kernel
theorem numA_11 : numA 11 = 835369 := by decide +kernel
theorem hexA_11 : hexA 11 = [0, 0, 0, 0, 0, 99, 101, 52, 56, 52, 50, 50, 50, 51, 50, 53] := by decide +kernel
theorem numA_12 : numA 12 = 52210 := by decide +kernel
theorem hexA_12 : hexA 12 = [0, 0, 0, 0, 57, 99, 101, 52, 56, 52, 50, 50, 50, 51, 50, 53] := by decide +kernel
theorem numA_13 : numA 13 = 3263 := by decide +kernel
theorem hexA_13 : hexA 13 = [0, 0, 0, 50, 57, 99, 101, 52, 56, 52, 50, 50, 50, 51, 50, 53] := by decide +kernel
theorem numA_14 : numA 14 = 203 := by decide +kernel
theorem hexA_14 : hexA 14 = [0, 0, 102, 50, 57, 99, 101, 52, 56, 52, 50, 50, 50, 51, 50, 53] := by decide +kernel
theorem numA_15 : numA 15 = 12 := by decide +kernel
theorem hexA_15 : hexA 15 = [0, 98, 102, 50, 57, 99, 101, 52, 56, 52, 50, 50, 50, 51, 50, 53] := by decide +kernel
theorem numA_16 : numA 16 = 0 := by decide +kernel
theorem hexA_16 : hexA 16 = [99, 98, 102, 50, 57, 99, 101, 52, 56, 52, 50, 50, 50, 51, 50, 53] := by decide +kernel
theorem hex0_ok : FnOk Tryz.prog 47 [.lit (.int .u64 14695981039346656037)] (str dig0) := by
  refine fnOk Tryz.func47 rfl (by kernel_rfl) Tryz.ntmps47 _ rfl (by simp) fun C hc => ?_
  repeat' (first | (first | refine Ya ?_ | refine Yb ?_ | refine Yc ?_ | refine Yd ?_ | refine Ye ?_ | refine Yf ?_ | refine Yg ?_ | refine Yh ?_ | refine Yi ?_ | refine Yj ?_ | refine Yk ?_ | refine Yl ?_ | refine Ym ?_ | refine Yn ?_ | refine Yo ?_ | refine Yp (h := ?_) | refine Yq ?_ | refine Yr ?_ | refine Ys ?_ | refine Zr hc (hk := ?_) | refine Zd hc (hk := ?_) | (refine Zc (ht := fun hb => ?_) (hf := fun hb => ?_) <;> (try simp at hb)) | fail) | (first | refine Zo hc (hk := ?_) | refine Zu hc (hk := ?_) | refine Ze hc (hk := ?_) | refine Zn hc (hk := ?_) | fail))
  refine ewp_loop (fun i : Nat => ⟨[(0, .d (.lit (.int .u64 (numA i)))), (3, .os 5 (hexA i).length), (7, .d (int 16)), (8, .d (int i))], [(5, .own 5 1 (true, [.lit (.int .u8 0)]) ((hexA i).map byteRow))]⟩) (fun i => i ≤ 16) (fun i => 16 - i) 0 (by simp) (by
    rw [show hexA 0 = List.replicate 16 0 from rfl, show numA 0 = 14695981039346656037 from rfl]
    exact run_keep [0, 3, 7, 8] [5] (by simp; exact Gives.mk) (by simp; exact Gives.mk)) ?_
  intro i hi
  by_cases hlt : i < 16
  · obtain rfl | rfl | rfl | rfl | rfl | rfl | rfl | rfl | rfl | rfl | rfl | rfl | rfl | rfl | rfl | rfl : i = 0 ∨ i = 1 ∨ i = 2 ∨ i = 3 ∨ i = 4 ∨ i = 5 ∨ i = 6 ∨ i = 7 ∨ i = 8 ∨ i = 9 ∨ i = 10 ∨ i = 11 ∨ i = 12 ∨ i = 13 ∨ i = 14 ∨ i = 15 := by omega
    · rw [numA_0, hexA_0]
      repeat' (first | (first | refine ewp_seq ?_ | refine run_region hc (by simp [IntKind.bits, IntKind.wrap, IntKind.signed]; exact Ends.go) (by first | exact True.intro | omega | assumption | (simp; done) | (simp; omega) | (simp at *; omega)) ?_ | refine run_draw hc (by kernel_rfl) (by kernel_rfl) (by simp [IntKind.bits, IntKind.wrap, IntKind.signed]; exact Ends.go) (by first | exact True.intro | omega | assumption | (simp; done) | (simp; omega) | (simp at *; omega)) ?_ | refine ewp_scope ?_ | refine scopeQ_normal ?_ | refine scopeQ_ret ?_ | refine scopeQ_exit ?_ | refine ewp_skip ?_ | refine ewp_block ?_ | refine ewp_exit ?_ | refine ewp_label ?_ | refine thenQ_normal ?_ | refine thenQ_ret ?_ | refine thenQ_exit ?_ | refine blockQ_normal ?_ | refine blockQ_ret ?_ | refine blockQ_here ?_ | refine blockQ_there (by decide) ?_ | refine ewp_ret ?_ | refine opsW_nil ?_ | refine quietW_nil ?_ | (refine run_cond (by simp [IntKind.bits, IntKind.wrap, IntKind.signed]; exact Gives.mk) (fun hb => ?_) (fun hb => ?_) <;> (try simp at hb)) | fail) | (first | refine run_callW hc (by simp [IntKind.bits, IntKind.wrap, IntKind.signed]; exact Gives.mk) (by simp [IntKind.bits, IntKind.wrap, IntKind.signed]; exact Gives.mk) (by simp [IntKind.bits, IntKind.wrap, IntKind.signed]; exact Gives.mk) (by simp [IntKind.bits, IntKind.wrap, IntKind.signed]; exact Gives.mk) (by simp [IntKind.bits, IntKind.wrap, IntKind.signed]; exact Gives.mk) (fun _ => by first | exact trivial) (by simp) (by simp) ?_ | refine run_callQ hc (by simp [IntKind.bits, IntKind.wrap, IntKind.signed]; exact Gives.mk) (by simp [IntKind.bits, IntKind.wrap, IntKind.signed]; exact Gives.mk) (by simp [IntKind.bits, IntKind.wrap, IntKind.signed]; exact Gives.mk) (by simp [IntKind.bits, IntKind.wrap, IntKind.signed]; exact Gives.mk) (by simp [IntKind.bits, IntKind.wrap, IntKind.signed]; exact Gives.mk) (fun _ => by first | exact trivial) (by simp) (by simp) ?_ | refine run_ops hc (by simp [IntKind.bits, IntKind.wrap, IntKind.signed]; first | exact Ends.go | exact Ends.halt) (by decide) (by first | exact True.intro | omega | assumption | (simp; done) | (simp; omega) | (simp at *; omega)) ?_ | refine run_quiet hc (by simp [IntKind.bits, IntKind.wrap, IntKind.signed]; first | exact Ends.go | exact Ends.halt) (by decide) (by first | exact True.intro | omega | assumption | (simp; done) | (simp; omega) | (simp at *; omega)) ?_ | refine run_regionW hc (by simp [IntKind.bits, IntKind.wrap, IntKind.signed]; exact Ends.halt) (by first | exact True.intro | omega | assumption | (simp; done) | (simp; omega) | (simp at *; omega)) ?_ | refine run_drawN hc (by kernel_rfl) (by decide) (by kernel_rfl) (by simp [IntKind.bits, IntKind.wrap, IntKind.signed]; exact Ends.halt) (by first | exact True.intro | omega | assumption | (simp; done) | (simp; omega) | (simp at *; omega)) ?_ | fail))
      all_goals try contradiction
      exact ⟨1, by omega, by omega, run_back [0, 3, 7, 8] [5] (by simp; exact Gives.mk) (by simp; exact Gives.mk) (by simp [numA_1, hexA_1])⟩
    · rw [numA_1, hexA_1]
      repeat' (first | (first | refine ewp_seq ?_ | refine run_region hc (by simp [IntKind.bits, IntKind.wrap, IntKind.signed]; exact Ends.go) (by first | exact True.intro | omega | assumption | (simp; done) | (simp; omega) | (simp at *; omega)) ?_ | refine run_draw hc (by kernel_rfl) (by kernel_rfl) (by simp [IntKind.bits, IntKind.wrap, IntKind.signed]; exact Ends.go) (by first | exact True.intro | omega | assumption | (simp; done) | (simp; omega) | (simp at *; omega)) ?_ | refine ewp_scope ?_ | refine scopeQ_normal ?_ | refine scopeQ_ret ?_ | refine scopeQ_exit ?_ | refine ewp_skip ?_ | refine ewp_block ?_ | refine ewp_exit ?_ | refine ewp_label ?_ | refine thenQ_normal ?_ | refine thenQ_ret ?_ | refine thenQ_exit ?_ | refine blockQ_normal ?_ | refine blockQ_ret ?_ | refine blockQ_here ?_ | refine blockQ_there (by decide) ?_ | refine ewp_ret ?_ | refine opsW_nil ?_ | refine quietW_nil ?_ | (refine run_cond (by simp [IntKind.bits, IntKind.wrap, IntKind.signed]; exact Gives.mk) (fun hb => ?_) (fun hb => ?_) <;> (try simp at hb)) | fail) | (first | refine run_callW hc (by simp [IntKind.bits, IntKind.wrap, IntKind.signed]; exact Gives.mk) (by simp [IntKind.bits, IntKind.wrap, IntKind.signed]; exact Gives.mk) (by simp [IntKind.bits, IntKind.wrap, IntKind.signed]; exact Gives.mk) (by simp [IntKind.bits, IntKind.wrap, IntKind.signed]; exact Gives.mk) (by simp [IntKind.bits, IntKind.wrap, IntKind.signed]; exact Gives.mk) (fun _ => by first | exact trivial) (by simp) (by simp) ?_ | refine run_callQ hc (by simp [IntKind.bits, IntKind.wrap, IntKind.signed]; exact Gives.mk) (by simp [IntKind.bits, IntKind.wrap, IntKind.signed]; exact Gives.mk) (by simp [IntKind.bits, IntKind.wrap, IntKind.signed]; exact Gives.mk) (by simp [IntKind.bits, IntKind.wrap, IntKind.signed]; exact Gives.mk) (by simp [IntKind.bits, IntKind.wrap, IntKind.signed]; exact Gives.mk) (fun _ => by first | exact trivial) (by simp) (by simp) ?_ | refine run_ops hc (by simp [IntKind.bits, IntKind.wrap, IntKind.signed]; first | exact Ends.go | exact Ends.halt) (by decide) (by first | exact True.intro | omega | assumption | (simp; done) | (simp; omega) | (simp at *; omega)) ?_ | refine run_quiet hc (by simp [IntKind.bits, IntKind.wrap, IntKind.signed]; first | exact Ends.go | exact Ends.halt) (by decide) (by first | exact True.intro | omega | assumption | (simp; done) | (simp; omega) | (simp at *; omega)) ?_ | refine run_regionW hc (by simp [IntKind.bits, IntKind.wrap, IntKind.signed]; exact Ends.halt) (by first | exact True.intro | omega | assumption | (simp; done) | (simp; omega) | (simp at *; omega)) ?_ | refine run_drawN hc (by kernel_rfl) (by decide) (by kernel_rfl) (by simp [IntKind.bits, IntKind.wrap, IntKind.signed]; exact Ends.halt) (by first | exact True.intro | omega | assumption | (simp; done) | (simp; omega) | (simp at *; omega)) ?_ | fail))
      all_goals try contradiction
      exact ⟨2, by omega, by omega, run_back [0, 3, 7, 8] [5] (by simp; exact Gives.mk) (by simp; exact Gives.mk) (by simp [numA_2, hexA_2])⟩
    · rw [numA_2, hexA_2]
      repeat' (first | (first | refine ewp_seq ?_ | refine run_region hc (by simp [IntKind.bits, IntKind.wrap, IntKind.signed]; exact Ends.go) (by first | exact True.intro | omega | assumption | (simp; done) | (simp; omega) | (simp at *; omega)) ?_ | refine run_draw hc (by kernel_rfl) (by kernel_rfl) (by simp [IntKind.bits, IntKind.wrap, IntKind.signed]; exact Ends.go) (by first | exact True.intro | omega | assumption | (simp; done) | (simp; omega) | (simp at *; omega)) ?_ | refine ewp_scope ?_ | refine scopeQ_normal ?_ | refine scopeQ_ret ?_ | refine scopeQ_exit ?_ | refine ewp_skip ?_ | refine ewp_block ?_ | refine ewp_exit ?_ | refine ewp_label ?_ | refine thenQ_normal ?_ | refine thenQ_ret ?_ | refine thenQ_exit ?_ | refine blockQ_normal ?_ | refine blockQ_ret ?_ | refine blockQ_here ?_ | refine blockQ_there (by decide) ?_ | refine ewp_ret ?_ | refine opsW_nil ?_ | refine quietW_nil ?_ | (refine run_cond (by simp [IntKind.bits, IntKind.wrap, IntKind.signed]; exact Gives.mk) (fun hb => ?_) (fun hb => ?_) <;> (try simp at hb)) | fail) | (first | refine run_callW hc (by simp [IntKind.bits, IntKind.wrap, IntKind.signed]; exact Gives.mk) (by simp [IntKind.bits, IntKind.wrap, IntKind.signed]; exact Gives.mk) (by simp [IntKind.bits, IntKind.wrap, IntKind.signed]; exact Gives.mk) (by simp [IntKind.bits, IntKind.wrap, IntKind.signed]; exact Gives.mk) (by simp [IntKind.bits, IntKind.wrap, IntKind.signed]; exact Gives.mk) (fun _ => by first | exact trivial) (by simp) (by simp) ?_ | refine run_callQ hc (by simp [IntKind.bits, IntKind.wrap, IntKind.signed]; exact Gives.mk) (by simp [IntKind.bits, IntKind.wrap, IntKind.signed]; exact Gives.mk) (by simp [IntKind.bits, IntKind.wrap, IntKind.signed]; exact Gives.mk) (by simp [IntKind.bits, IntKind.wrap, IntKind.signed]; exact Gives.mk) (by simp [IntKind.bits, IntKind.wrap, IntKind.signed]; exact Gives.mk) (fun _ => by first | exact trivial) (by simp) (by simp) ?_ | refine run_ops hc (by simp [IntKind.bits, IntKind.wrap, IntKind.signed]; first | exact Ends.go | exact Ends.halt) (by decide) (by first | exact True.intro | omega | assumption | (simp; done) | (simp; omega) | (simp at *; omega)) ?_ | refine run_quiet hc (by simp [IntKind.bits, IntKind.wrap, IntKind.signed]; first | exact Ends.go | exact Ends.halt) (by decide) (by first | exact True.intro | omega | assumption | (simp; done) | (simp; omega) | (simp at *; omega)) ?_ | refine run_regionW hc (by simp [IntKind.bits, IntKind.wrap, IntKind.signed]; exact Ends.halt) (by first | exact True.intro | omega | assumption | (simp; done) | (simp; omega) | (simp at *; omega)) ?_ | refine run_drawN hc (by kernel_rfl) (by decide) (by kernel_rfl) (by simp [IntKind.bits, IntKind.wrap, IntKind.signed]; exact Ends.halt) (by first | exact True.intro | omega | assumption | (simp; done) | (simp; omega) | (simp at *; omega)) ?_ | fail))
      all_goals try contradiction
      exact ⟨3, by omega, by omega, run_back [0, 3, 7, 8] [5] (by simp; exact Gives.mk) (by simp; exact Gives.mk) (by simp [numA_3, hexA_3])⟩
    · rw [numA_3, hexA_3]
      repeat' (first | (first | refine ewp_seq ?_ | refine run_region hc (by simp [IntKind.bits, IntKind.wrap, IntKind.signed]; exact Ends.go) (by first | exact True.intro | omega | assumption | (simp; done) | (simp; omega) | (simp at *; omega)) ?_ | refine run_draw hc (by kernel_rfl) (by kernel_rfl) (by simp [IntKind.bits, IntKind.wrap, IntKind.signed]; exact Ends.go) (by first | exact True.intro | omega | assumption | (simp; done) | (simp; omega) | (simp at *; omega)) ?_ | refine ewp_scope ?_ | refine scopeQ_normal ?_ | refine scopeQ_ret ?_ | refine scopeQ_exit ?_ | refine ewp_skip ?_ | refine ewp_block ?_ | refine ewp_exit ?_ | refine ewp_label ?_ | refine thenQ_normal ?_ | refine thenQ_ret ?_ | refine thenQ_exit ?_ | refine blockQ_normal ?_ | refine blockQ_ret ?_ | refine blockQ_here ?_ | refine blockQ_there (by decide) ?_ | refine ewp_ret ?_ | refine opsW_nil ?_ | refine quietW_nil ?_ | (refine run_cond (by simp [IntKind.bits, IntKind.wrap, IntKind.signed]; exact Gives.mk) (fun hb => ?_) (fun hb => ?_) <;> (try simp at hb)) | fail) | (first | refine run_callW hc (by simp [IntKind.bits, IntKind.wrap, IntKind.signed]; exact Gives.mk) (by simp [IntKind.bits, IntKind.wrap, IntKind.signed]; exact Gives.mk) (by simp [IntKind.bits, IntKind.wrap, IntKind.signed]; exact Gives.mk) (by simp [IntKind.bits, IntKind.wrap, IntKind.signed]; exact Gives.mk) (by simp [IntKind.bits, IntKind.wrap, IntKind.signed]; exact Gives.mk) (fun _ => by first | exact trivial) (by simp) (by simp) ?_ | refine run_callQ hc (by simp [IntKind.bits, IntKind.wrap, IntKind.signed]; exact Gives.mk) (by simp [IntKind.bits, IntKind.wrap, IntKind.signed]; exact Gives.mk) (by simp [IntKind.bits, IntKind.wrap, IntKind.signed]; exact Gives.mk) (by simp [IntKind.bits, IntKind.wrap, IntKind.signed]; exact Gives.mk) (by simp [IntKind.bits, IntKind.wrap, IntKind.signed]; exact Gives.mk) (fun _ => by first | exact trivial) (by simp) (by simp) ?_ | refine run_ops hc (by simp [IntKind.bits, IntKind.wrap, IntKind.signed]; first | exact Ends.go | exact Ends.halt) (by decide) (by first | exact True.intro | omega | assumption | (simp; done) | (simp; omega) | (simp at *; omega)) ?_ | refine run_quiet hc (by simp [IntKind.bits, IntKind.wrap, IntKind.signed]; first | exact Ends.go | exact Ends.halt) (by decide) (by first | exact True.intro | omega | assumption | (simp; done) | (simp; omega) | (simp at *; omega)) ?_ | refine run_regionW hc (by simp [IntKind.bits, IntKind.wrap, IntKind.signed]; exact Ends.halt) (by first | exact True.intro | omega | assumption | (simp; done) | (simp; omega) | (simp at *; omega)) ?_ | refine run_drawN hc (by kernel_rfl) (by decide) (by kernel_rfl) (by simp [IntKind.bits, IntKind.wrap, IntKind.signed]; exact Ends.halt) (by first | exact True.intro | omega | assumption | (simp; done) | (simp; omega) | (simp at *; omega)) ?_ | fail))
      all_goals try contradiction
      exact ⟨4, by omega, by omega, run_back [0, 3, 7, 8] [5] (by simp; exact Gives.mk) (by simp; exact Gives.mk) (by simp [numA_4, hexA_4])⟩
    · rw [numA_4, hexA_4]
      repeat' (first | (first | refine ewp_seq ?_ | refine run_region hc (by simp [IntKind.bits, IntKind.wrap, IntKind.signed]; exact Ends.go) (by first | exact True.intro | omega | assumption | (simp; done) | (simp; omega) | (simp at *; omega)) ?_ | refine run_draw hc (by kernel_rfl) (by kernel_rfl) (by simp [IntKind.bits, IntKind.wrap, IntKind.signed]; exact Ends.go) (by first | exact True.intro | omega | assumption | (simp; done) | (simp; omega) | (simp at *; omega)) ?_ | refine ewp_scope ?_ | refine scopeQ_normal ?_ | refine scopeQ_ret ?_ | refine scopeQ_exit ?_ | refine ewp_skip ?_ | refine ewp_block ?_ | refine ewp_exit ?_ | refine ewp_label ?_ | refine thenQ_normal ?_ | refine thenQ_ret ?_ | refine thenQ_exit ?_ | refine blockQ_normal ?_ | refine blockQ_ret ?_ | refine blockQ_here ?_ | refine blockQ_there (by decide) ?_ | refine ewp_ret ?_ | refine opsW_nil ?_ | refine quietW_nil ?_ | (refine run_cond (by simp [IntKind.bits, IntKind.wrap, IntKind.signed]; exact Gives.mk) (fun hb => ?_) (fun hb => ?_) <;> (try simp at hb)) | fail) | (first | refine run_callW hc (by simp [IntKind.bits, IntKind.wrap, IntKind.signed]; exact Gives.mk) (by simp [IntKind.bits, IntKind.wrap, IntKind.signed]; exact Gives.mk) (by simp [IntKind.bits, IntKind.wrap, IntKind.signed]; exact Gives.mk) (by simp [IntKind.bits, IntKind.wrap, IntKind.signed]; exact Gives.mk) (by simp [IntKind.bits, IntKind.wrap, IntKind.signed]; exact Gives.mk) (fun _ => by first | exact trivial) (by simp) (by simp) ?_ | refine run_callQ hc (by simp [IntKind.bits, IntKind.wrap, IntKind.signed]; exact Gives.mk) (by simp [IntKind.bits, IntKind.wrap, IntKind.signed]; exact Gives.mk) (by simp [IntKind.bits, IntKind.wrap, IntKind.signed]; exact Gives.mk) (by simp [IntKind.bits, IntKind.wrap, IntKind.signed]; exact Gives.mk) (by simp [IntKind.bits, IntKind.wrap, IntKind.signed]; exact Gives.mk) (fun _ => by first | exact trivial) (by simp) (by simp) ?_ | refine run_ops hc (by simp [IntKind.bits, IntKind.wrap, IntKind.signed]; first | exact Ends.go | exact Ends.halt) (by decide) (by first | exact True.intro | omega | assumption | (simp; done) | (simp; omega) | (simp at *; omega)) ?_ | refine run_quiet hc (by simp [IntKind.bits, IntKind.wrap, IntKind.signed]; first | exact Ends.go | exact Ends.halt) (by decide) (by first | exact True.intro | omega | assumption | (simp; done) | (simp; omega) | (simp at *; omega)) ?_ | refine run_regionW hc (by simp [IntKind.bits, IntKind.wrap, IntKind.signed]; exact Ends.halt) (by first | exact True.intro | omega | assumption | (simp; done) | (simp; omega) | (simp at *; omega)) ?_ | refine run_drawN hc (by kernel_rfl) (by decide) (by kernel_rfl) (by simp [IntKind.bits, IntKind.wrap, IntKind.signed]; exact Ends.halt) (by first | exact True.intro | omega | assumption | (simp; done) | (simp; omega) | (simp at *; omega)) ?_ | fail))
      all_goals try contradiction
      exact ⟨5, by omega, by omega, run_back [0, 3, 7, 8] [5] (by simp; exact Gives.mk) (by simp; exact Gives.mk) (by simp [numA_5, hexA_5])⟩
    · rw [numA_5, hexA_5]
      repeat' (first | (first | refine ewp_seq ?_ | refine run_region hc (by simp [IntKind.bits, IntKind.wrap, IntKind.signed]; exact Ends.go) (by first | exact True.intro | omega | assumption | (simp; done) | (simp; omega) | (simp at *; omega)) ?_ | refine run_draw hc (by kernel_rfl) (by kernel_rfl) (by simp [IntKind.bits, IntKind.wrap, IntKind.signed]; exact Ends.go) (by first | exact True.intro | omega | assumption | (simp; done) | (simp; omega) | (simp at *; omega)) ?_ | refine ewp_scope ?_ | refine scopeQ_normal ?_ | refine scopeQ_ret ?_ | refine scopeQ_exit ?_ | refine ewp_skip ?_ | refine ewp_block ?_ | refine ewp_exit ?_ | refine ewp_label ?_ | refine thenQ_normal ?_ | refine thenQ_ret ?_ | refine thenQ_exit ?_ | refine blockQ_normal ?_ | refine blockQ_ret ?_ | refine blockQ_here ?_ | refine blockQ_there (by decide) ?_ | refine ewp_ret ?_ | refine opsW_nil ?_ | refine quietW_nil ?_ | (refine run_cond (by simp [IntKind.bits, IntKind.wrap, IntKind.signed]; exact Gives.mk) (fun hb => ?_) (fun hb => ?_) <;> (try simp at hb)) | fail) | (first | refine run_callW hc (by simp [IntKind.bits, IntKind.wrap, IntKind.signed]; exact Gives.mk) (by simp [IntKind.bits, IntKind.wrap, IntKind.signed]; exact Gives.mk) (by simp [IntKind.bits, IntKind.wrap, IntKind.signed]; exact Gives.mk) (by simp [IntKind.bits, IntKind.wrap, IntKind.signed]; exact Gives.mk) (by simp [IntKind.bits, IntKind.wrap, IntKind.signed]; exact Gives.mk) (fun _ => by first | exact trivial) (by simp) (by simp) ?_ | refine run_callQ hc (by simp [IntKind.bits, IntKind.wrap, IntKind.signed]; exact Gives.mk) (by simp [IntKind.bits, IntKind.wrap, IntKind.signed]; exact Gives.mk) (by simp [IntKind.bits, IntKind.wrap, IntKind.signed]; exact Gives.mk) (by simp [IntKind.bits, IntKind.wrap, IntKind.signed]; exact Gives.mk) (by simp [IntKind.bits, IntKind.wrap, IntKind.signed]; exact Gives.mk) (fun _ => by first | exact trivial) (by simp) (by simp) ?_ | refine run_ops hc (by simp [IntKind.bits, IntKind.wrap, IntKind.signed]; first | exact Ends.go | exact Ends.halt) (by decide) (by first | exact True.intro | omega | assumption | (simp; done) | (simp; omega) | (simp at *; omega)) ?_ | refine run_quiet hc (by simp [IntKind.bits, IntKind.wrap, IntKind.signed]; first | exact Ends.go | exact Ends.halt) (by decide) (by first | exact True.intro | omega | assumption | (simp; done) | (simp; omega) | (simp at *; omega)) ?_ | refine run_regionW hc (by simp [IntKind.bits, IntKind.wrap, IntKind.signed]; exact Ends.halt) (by first | exact True.intro | omega | assumption | (simp; done) | (simp; omega) | (simp at *; omega)) ?_ | refine run_drawN hc (by kernel_rfl) (by decide) (by kernel_rfl) (by simp [IntKind.bits, IntKind.wrap, IntKind.signed]; exact Ends.halt) (by first | exact True.intro | omega | assumption | (simp; done) | (simp; omega) | (simp at *; omega)) ?_ | fail))
      all_goals try contradiction
      exact ⟨6, by omega, by omega, run_back [0, 3, 7, 8] [5] (by simp; exact Gives.mk) (by simp; exact Gives.mk) (by simp [numA_6, hexA_6])⟩
    · rw [numA_6, hexA_6]
      repeat' (first | (first | refine ewp_seq ?_ | refine run_region hc (by simp [IntKind.bits, IntKind.wrap, IntKind.signed]; exact Ends.go) (by first | exact True.intro | omega | assumption | (simp; done) | (simp; omega) | (simp at *; omega)) ?_ | refine run_draw hc (by kernel_rfl) (by kernel_rfl) (by simp [IntKind.bits, IntKind.wrap, IntKind.signed]; exact Ends.go) (by first | exact True.intro | omega | assumption | (simp; done) | (simp; omega) | (simp at *; omega)) ?_ | refine ewp_scope ?_ | refine scopeQ_normal ?_ | refine scopeQ_ret ?_ | refine scopeQ_exit ?_ | refine ewp_skip ?_ | refine ewp_block ?_ | refine ewp_exit ?_ | refine ewp_label ?_ | refine thenQ_normal ?_ | refine thenQ_ret ?_ | refine thenQ_exit ?_ | refine blockQ_normal ?_ | refine blockQ_ret ?_ | refine blockQ_here ?_ | refine blockQ_there (by decide) ?_ | refine ewp_ret ?_ | refine opsW_nil ?_ | refine quietW_nil ?_ | (refine run_cond (by simp [IntKind.bits, IntKind.wrap, IntKind.signed]; exact Gives.mk) (fun hb => ?_) (fun hb => ?_) <;> (try simp at hb)) | fail) | (first | refine run_callW hc (by simp [IntKind.bits, IntKind.wrap, IntKind.signed]; exact Gives.mk) (by simp [IntKind.bits, IntKind.wrap, IntKind.signed]; exact Gives.mk) (by simp [IntKind.bits, IntKind.wrap, IntKind.signed]; exact Gives.mk) (by simp [IntKind.bits, IntKind.wrap, IntKind.signed]; exact Gives.mk) (by simp [IntKind.bits, IntKind.wrap, IntKind.signed]; exact Gives.mk) (fun _ => by first | exact trivial) (by simp) (by simp) ?_ | refine run_callQ hc (by simp [IntKind.bits, IntKind.wrap, IntKind.signed]; exact Gives.mk) (by simp [IntKind.bits, IntKind.wrap, IntKind.signed]; exact Gives.mk) (by simp [IntKind.bits, IntKind.wrap, IntKind.signed]; exact Gives.mk) (by simp [IntKind.bits, IntKind.wrap, IntKind.signed]; exact Gives.mk) (by simp [IntKind.bits, IntKind.wrap, IntKind.signed]; exact Gives.mk) (fun _ => by first | exact trivial) (by simp) (by simp) ?_ | refine run_ops hc (by simp [IntKind.bits, IntKind.wrap, IntKind.signed]; first | exact Ends.go | exact Ends.halt) (by decide) (by first | exact True.intro | omega | assumption | (simp; done) | (simp; omega) | (simp at *; omega)) ?_ | refine run_quiet hc (by simp [IntKind.bits, IntKind.wrap, IntKind.signed]; first | exact Ends.go | exact Ends.halt) (by decide) (by first | exact True.intro | omega | assumption | (simp; done) | (simp; omega) | (simp at *; omega)) ?_ | refine run_regionW hc (by simp [IntKind.bits, IntKind.wrap, IntKind.signed]; exact Ends.halt) (by first | exact True.intro | omega | assumption | (simp; done) | (simp; omega) | (simp at *; omega)) ?_ | refine run_drawN hc (by kernel_rfl) (by decide) (by kernel_rfl) (by simp [IntKind.bits, IntKind.wrap, IntKind.signed]; exact Ends.halt) (by first | exact True.intro | omega | assumption | (simp; done) | (simp; omega) | (simp at *; omega)) ?_ | fail))
      all_goals try contradiction
      exact ⟨7, by omega, by omega, run_back [0, 3, 7, 8] [5] (by simp; exact Gives.mk) (by simp; exact Gives.mk) (by simp [numA_7, hexA_7])⟩
    · rw [numA_7, hexA_7]
      repeat' (first | (first | refine ewp_seq ?_ | refine run_region hc (by simp [IntKind.bits, IntKind.wrap, IntKind.signed]; exact Ends.go) (by first | exact True.intro | omega | assumption | (simp; done) | (simp; omega) | (simp at *; omega)) ?_ | refine run_draw hc (by kernel_rfl) (by kernel_rfl) (by simp [IntKind.bits, IntKind.wrap, IntKind.signed]; exact Ends.go) (by first | exact True.intro | omega | assumption | (simp; done) | (simp; omega) | (simp at *; omega)) ?_ | refine ewp_scope ?_ | refine scopeQ_normal ?_ | refine scopeQ_ret ?_ | refine scopeQ_exit ?_ | refine ewp_skip ?_ | refine ewp_block ?_ | refine ewp_exit ?_ | refine ewp_label ?_ | refine thenQ_normal ?_ | refine thenQ_ret ?_ | refine thenQ_exit ?_ | refine blockQ_normal ?_ | refine blockQ_ret ?_ | refine blockQ_here ?_ | refine blockQ_there (by decide) ?_ | refine ewp_ret ?_ | refine opsW_nil ?_ | refine quietW_nil ?_ | (refine run_cond (by simp [IntKind.bits, IntKind.wrap, IntKind.signed]; exact Gives.mk) (fun hb => ?_) (fun hb => ?_) <;> (try simp at hb)) | fail) | (first | refine run_callW hc (by simp [IntKind.bits, IntKind.wrap, IntKind.signed]; exact Gives.mk) (by simp [IntKind.bits, IntKind.wrap, IntKind.signed]; exact Gives.mk) (by simp [IntKind.bits, IntKind.wrap, IntKind.signed]; exact Gives.mk) (by simp [IntKind.bits, IntKind.wrap, IntKind.signed]; exact Gives.mk) (by simp [IntKind.bits, IntKind.wrap, IntKind.signed]; exact Gives.mk) (fun _ => by first | exact trivial) (by simp) (by simp) ?_ | refine run_callQ hc (by simp [IntKind.bits, IntKind.wrap, IntKind.signed]; exact Gives.mk) (by simp [IntKind.bits, IntKind.wrap, IntKind.signed]; exact Gives.mk) (by simp [IntKind.bits, IntKind.wrap, IntKind.signed]; exact Gives.mk) (by simp [IntKind.bits, IntKind.wrap, IntKind.signed]; exact Gives.mk) (by simp [IntKind.bits, IntKind.wrap, IntKind.signed]; exact Gives.mk) (fun _ => by first | exact trivial) (by simp) (by simp) ?_ | refine run_ops hc (by simp [IntKind.bits, IntKind.wrap, IntKind.signed]; first | exact Ends.go | exact Ends.halt) (by decide) (by first | exact True.intro | omega | assumption | (simp; done) | (simp; omega) | (simp at *; omega)) ?_ | refine run_quiet hc (by simp [IntKind.bits, IntKind.wrap, IntKind.signed]; first | exact Ends.go | exact Ends.halt) (by decide) (by first | exact True.intro | omega | assumption | (simp; done) | (simp; omega) | (simp at *; omega)) ?_ | refine run_regionW hc (by simp [IntKind.bits, IntKind.wrap, IntKind.signed]; exact Ends.halt) (by first | exact True.intro | omega | assumption | (simp; done) | (simp; omega) | (simp at *; omega)) ?_ | refine run_drawN hc (by kernel_rfl) (by decide) (by kernel_rfl) (by simp [IntKind.bits, IntKind.wrap, IntKind.signed]; exact Ends.halt) (by first | exact True.intro | omega | assumption | (simp; done) | (simp; omega) | (simp at *; omega)) ?_ | fail))
      all_goals try contradiction
      exact ⟨8, by omega, by omega, run_back [0, 3, 7, 8] [5] (by simp; exact Gives.mk) (by simp; exact Gives.mk) (by simp [numA_8, hexA_8])⟩
    · rw [numA_8, hexA_8]
      repeat' (first | (first | refine ewp_seq ?_ | refine run_region hc (by simp [IntKind.bits, IntKind.wrap, IntKind.signed]; exact Ends.go) (by first | exact True.intro | omega | assumption | (simp; done) | (simp; omega) | (simp at *; omega)) ?_ | refine run_draw hc (by kernel_rfl) (by kernel_rfl) (by simp [IntKind.bits, IntKind.wrap, IntKind.signed]; exact Ends.go) (by first | exact True.intro | omega | assumption | (simp; done) | (simp; omega) | (simp at *; omega)) ?_ | refine ewp_scope ?_ | refine scopeQ_normal ?_ | refine scopeQ_ret ?_ | refine scopeQ_exit ?_ | refine ewp_skip ?_ | refine ewp_block ?_ | refine ewp_exit ?_ | refine ewp_label ?_ | refine thenQ_normal ?_ | refine thenQ_ret ?_ | refine thenQ_exit ?_ | refine blockQ_normal ?_ | refine blockQ_ret ?_ | refine blockQ_here ?_ | refine blockQ_there (by decide) ?_ | refine ewp_ret ?_ | refine opsW_nil ?_ | refine quietW_nil ?_ | (refine run_cond (by simp [IntKind.bits, IntKind.wrap, IntKind.signed]; exact Gives.mk) (fun hb => ?_) (fun hb => ?_) <;> (try simp at hb)) | fail) | (first | refine run_callW hc (by simp [IntKind.bits, IntKind.wrap, IntKind.signed]; exact Gives.mk) (by simp [IntKind.bits, IntKind.wrap, IntKind.signed]; exact Gives.mk) (by simp [IntKind.bits, IntKind.wrap, IntKind.signed]; exact Gives.mk) (by simp [IntKind.bits, IntKind.wrap, IntKind.signed]; exact Gives.mk) (by simp [IntKind.bits, IntKind.wrap, IntKind.signed]; exact Gives.mk) (fun _ => by first | exact trivial) (by simp) (by simp) ?_ | refine run_callQ hc (by simp [IntKind.bits, IntKind.wrap, IntKind.signed]; exact Gives.mk) (by simp [IntKind.bits, IntKind.wrap, IntKind.signed]; exact Gives.mk) (by simp [IntKind.bits, IntKind.wrap, IntKind.signed]; exact Gives.mk) (by simp [IntKind.bits, IntKind.wrap, IntKind.signed]; exact Gives.mk) (by simp [IntKind.bits, IntKind.wrap, IntKind.signed]; exact Gives.mk) (fun _ => by first | exact trivial) (by simp) (by simp) ?_ | refine run_ops hc (by simp [IntKind.bits, IntKind.wrap, IntKind.signed]; first | exact Ends.go | exact Ends.halt) (by decide) (by first | exact True.intro | omega | assumption | (simp; done) | (simp; omega) | (simp at *; omega)) ?_ | refine run_quiet hc (by simp [IntKind.bits, IntKind.wrap, IntKind.signed]; first | exact Ends.go | exact Ends.halt) (by decide) (by first | exact True.intro | omega | assumption | (simp; done) | (simp; omega) | (simp at *; omega)) ?_ | refine run_regionW hc (by simp [IntKind.bits, IntKind.wrap, IntKind.signed]; exact Ends.halt) (by first | exact True.intro | omega | assumption | (simp; done) | (simp; omega) | (simp at *; omega)) ?_ | refine run_drawN hc (by kernel_rfl) (by decide) (by kernel_rfl) (by simp [IntKind.bits, IntKind.wrap, IntKind.signed]; exact Ends.halt) (by first | exact True.intro | omega | assumption | (simp; done) | (simp; omega) | (simp at *; omega)) ?_ | fail))
      all_goals try contradiction
      exact ⟨9, by omega, by omega, run_back [0, 3, 7, 8] [5] (by simp; exact Gives.mk) (by simp; exact Gives.mk) (by simp [numA_9, hexA_9])⟩
    · rw [numA_9, hexA_9]
      repeat' (first | (first | refine ewp_seq ?_ | refine run_region hc (by simp [IntKind.bits, IntKind.wrap, IntKind.signed]; exact Ends.go) (by first | exact True.intro | omega | assumption | (simp; done) | (simp; omega) | (simp at *; omega)) ?_ | refine run_draw hc (by kernel_rfl) (by kernel_rfl) (by simp [IntKind.bits, IntKind.wrap, IntKind.signed]; exact Ends.go) (by first | exact True.intro | omega | assumption | (simp; done) | (simp; omega) | (simp at *; omega)) ?_ | refine ewp_scope ?_ | refine scopeQ_normal ?_ | refine scopeQ_ret ?_ | refine scopeQ_exit ?_ | refine ewp_skip ?_ | refine ewp_block ?_ | refine ewp_exit ?_ | refine ewp_label ?_ | refine thenQ_normal ?_ | refine thenQ_ret ?_ | refine thenQ_exit ?_ | refine blockQ_normal ?_ | refine blockQ_ret ?_ | refine blockQ_here ?_ | refine blockQ_there (by decide) ?_ | refine ewp_ret ?_ | refine opsW_nil ?_ | refine quietW_nil ?_ | (refine run_cond (by simp [IntKind.bits, IntKind.wrap, IntKind.signed]; exact Gives.mk) (fun hb => ?_) (fun hb => ?_) <;> (try simp at hb)) | fail) | (first | refine run_callW hc (by simp [IntKind.bits, IntKind.wrap, IntKind.signed]; exact Gives.mk) (by simp [IntKind.bits, IntKind.wrap, IntKind.signed]; exact Gives.mk) (by simp [IntKind.bits, IntKind.wrap, IntKind.signed]; exact Gives.mk) (by simp [IntKind.bits, IntKind.wrap, IntKind.signed]; exact Gives.mk) (by simp [IntKind.bits, IntKind.wrap, IntKind.signed]; exact Gives.mk) (fun _ => by first | exact trivial) (by simp) (by simp) ?_ | refine run_callQ hc (by simp [IntKind.bits, IntKind.wrap, IntKind.signed]; exact Gives.mk) (by simp [IntKind.bits, IntKind.wrap, IntKind.signed]; exact Gives.mk) (by simp [IntKind.bits, IntKind.wrap, IntKind.signed]; exact Gives.mk) (by simp [IntKind.bits, IntKind.wrap, IntKind.signed]; exact Gives.mk) (by simp [IntKind.bits, IntKind.wrap, IntKind.signed]; exact Gives.mk) (fun _ => by first | exact trivial) (by simp) (by simp) ?_ | refine run_ops hc (by simp [IntKind.bits, IntKind.wrap, IntKind.signed]; first | exact Ends.go | exact Ends.halt) (by decide) (by first | exact True.intro | omega | assumption | (simp; done) | (simp; omega) | (simp at *; omega)) ?_ | refine run_quiet hc (by simp [IntKind.bits, IntKind.wrap, IntKind.signed]; first | exact Ends.go | exact Ends.halt) (by decide) (by first | exact True.intro | omega | assumption | (simp; done) | (simp; omega) | (simp at *; omega)) ?_ | refine run_regionW hc (by simp [IntKind.bits, IntKind.wrap, IntKind.signed]; exact Ends.halt) (by first | exact True.intro | omega | assumption | (simp; done) | (simp; omega) | (simp at *; omega)) ?_ | refine run_drawN hc (by kernel_rfl) (by decide) (by kernel_rfl) (by simp [IntKind.bits, IntKind.wrap, IntKind.signed]; exact Ends.halt) (by first | exact True.intro | omega | assumption | (simp; done) | (simp; omega) | (simp at *; omega)) ?_ | fail))
      all_goals try contradiction
      exact ⟨10, by omega, by omega, run_back [0, 3, 7, 8] [5] (by simp; exact Gives.mk) (by simp; exact Gives.mk) (by simp [numA_10, hexA_10])⟩
    · rw [numA_10, hexA_10]
      repeat' (first | (first | refine ewp_seq ?_ | refine run_region hc (by simp [IntKind.bits, IntKind.wrap, IntKind.signed]; exact Ends.go) (by first | exact True.intro | omega | assumption | (simp; done) | (simp; omega) | (simp at *; omega)) ?_ | refine run_draw hc (by kernel_rfl) (by kernel_rfl) (by simp [IntKind.bits, IntKind.wrap, IntKind.signed]; exact Ends.go) (by first | exact True.intro | omega | assumption | (simp; done) | (simp; omega) | (simp at *; omega)) ?_ | refine ewp_scope ?_ | refine scopeQ_normal ?_ | refine scopeQ_ret ?_ | refine scopeQ_exit ?_ | refine ewp_skip ?_ | refine ewp_block ?_ | refine ewp_exit ?_ | refine ewp_label ?_ | refine thenQ_normal ?_ | refine thenQ_ret ?_ | refine thenQ_exit ?_ | refine blockQ_normal ?_ | refine blockQ_ret ?_ | refine blockQ_here ?_ | refine blockQ_there (by decide) ?_ | refine ewp_ret ?_ | refine opsW_nil ?_ | refine quietW_nil ?_ | (refine run_cond (by simp [IntKind.bits, IntKind.wrap, IntKind.signed]; exact Gives.mk) (fun hb => ?_) (fun hb => ?_) <;> (try simp at hb)) | fail) | (first | refine run_callW hc (by simp [IntKind.bits, IntKind.wrap, IntKind.signed]; exact Gives.mk) (by simp [IntKind.bits, IntKind.wrap, IntKind.signed]; exact Gives.mk) (by simp [IntKind.bits, IntKind.wrap, IntKind.signed]; exact Gives.mk) (by simp [IntKind.bits, IntKind.wrap, IntKind.signed]; exact Gives.mk) (by simp [IntKind.bits, IntKind.wrap, IntKind.signed]; exact Gives.mk) (fun _ => by first | exact trivial) (by simp) (by simp) ?_ | refine run_callQ hc (by simp [IntKind.bits, IntKind.wrap, IntKind.signed]; exact Gives.mk) (by simp [IntKind.bits, IntKind.wrap, IntKind.signed]; exact Gives.mk) (by simp [IntKind.bits, IntKind.wrap, IntKind.signed]; exact Gives.mk) (by simp [IntKind.bits, IntKind.wrap, IntKind.signed]; exact Gives.mk) (by simp [IntKind.bits, IntKind.wrap, IntKind.signed]; exact Gives.mk) (fun _ => by first | exact trivial) (by simp) (by simp) ?_ | refine run_ops hc (by simp [IntKind.bits, IntKind.wrap, IntKind.signed]; first | exact Ends.go | exact Ends.halt) (by decide) (by first | exact True.intro | omega | assumption | (simp; done) | (simp; omega) | (simp at *; omega)) ?_ | refine run_quiet hc (by simp [IntKind.bits, IntKind.wrap, IntKind.signed]; first | exact Ends.go | exact Ends.halt) (by decide) (by first | exact True.intro | omega | assumption | (simp; done) | (simp; omega) | (simp at *; omega)) ?_ | refine run_regionW hc (by simp [IntKind.bits, IntKind.wrap, IntKind.signed]; exact Ends.halt) (by first | exact True.intro | omega | assumption | (simp; done) | (simp; omega) | (simp at *; omega)) ?_ | refine run_drawN hc (by kernel_rfl) (by decide) (by kernel_rfl) (by simp [IntKind.bits, IntKind.wrap, IntKind.signed]; exact Ends.halt) (by first | exact True.intro | omega | assumption | (simp; done) | (simp; omega) | (simp at *; omega)) ?_ | fail))
      all_goals try contradiction
      exact ⟨11, by omega, by omega, run_back [0, 3, 7, 8] [5] (by simp; exact Gives.mk) (by simp; exact Gives.mk) (by simp [numA_11, hexA_11])⟩
    · rw [numA_11, hexA_11]
      repeat' (first | (first | refine ewp_seq ?_ | refine run_region hc (by simp [IntKind.bits, IntKind.wrap, IntKind.signed]; exact Ends.go) (by first | exact True.intro | omega | assumption | (simp; done) | (simp; omega) | (simp at *; omega)) ?_ | refine run_draw hc (by kernel_rfl) (by kernel_rfl) (by simp [IntKind.bits, IntKind.wrap, IntKind.signed]; exact Ends.go) (by first | exact True.intro | omega | assumption | (simp; done) | (simp; omega) | (simp at *; omega)) ?_ | refine ewp_scope ?_ | refine scopeQ_normal ?_ | refine scopeQ_ret ?_ | refine scopeQ_exit ?_ | refine ewp_skip ?_ | refine ewp_block ?_ | refine ewp_exit ?_ | refine ewp_label ?_ | refine thenQ_normal ?_ | refine thenQ_ret ?_ | refine thenQ_exit ?_ | refine blockQ_normal ?_ | refine blockQ_ret ?_ | refine blockQ_here ?_ | refine blockQ_there (by decide) ?_ | refine ewp_ret ?_ | refine opsW_nil ?_ | refine quietW_nil ?_ | (refine run_cond (by simp [IntKind.bits, IntKind.wrap, IntKind.signed]; exact Gives.mk) (fun hb => ?_) (fun hb => ?_) <;> (try simp at hb)) | fail) | (first | refine run_callW hc (by simp [IntKind.bits, IntKind.wrap, IntKind.signed]; exact Gives.mk) (by simp [IntKind.bits, IntKind.wrap, IntKind.signed]; exact Gives.mk) (by simp [IntKind.bits, IntKind.wrap, IntKind.signed]; exact Gives.mk) (by simp [IntKind.bits, IntKind.wrap, IntKind.signed]; exact Gives.mk) (by simp [IntKind.bits, IntKind.wrap, IntKind.signed]; exact Gives.mk) (fun _ => by first | exact trivial) (by simp) (by simp) ?_ | refine run_callQ hc (by simp [IntKind.bits, IntKind.wrap, IntKind.signed]; exact Gives.mk) (by simp [IntKind.bits, IntKind.wrap, IntKind.signed]; exact Gives.mk) (by simp [IntKind.bits, IntKind.wrap, IntKind.signed]; exact Gives.mk) (by simp [IntKind.bits, IntKind.wrap, IntKind.signed]; exact Gives.mk) (by simp [IntKind.bits, IntKind.wrap, IntKind.signed]; exact Gives.mk) (fun _ => by first | exact trivial) (by simp) (by simp) ?_ | refine run_ops hc (by simp [IntKind.bits, IntKind.wrap, IntKind.signed]; first | exact Ends.go | exact Ends.halt) (by decide) (by first | exact True.intro | omega | assumption | (simp; done) | (simp; omega) | (simp at *; omega)) ?_ | refine run_quiet hc (by simp [IntKind.bits, IntKind.wrap, IntKind.signed]; first | exact Ends.go | exact Ends.halt) (by decide) (by first | exact True.intro | omega | assumption | (simp; done) | (simp; omega) | (simp at *; omega)) ?_ | refine run_regionW hc (by simp [IntKind.bits, IntKind.wrap, IntKind.signed]; exact Ends.halt) (by first | exact True.intro | omega | assumption | (simp; done) | (simp; omega) | (simp at *; omega)) ?_ | refine run_drawN hc (by kernel_rfl) (by decide) (by kernel_rfl) (by simp [IntKind.bits, IntKind.wrap, IntKind.signed]; exact Ends.halt) (by first | exact True.intro | omega | assumption | (simp; done) | (simp; omega) | (simp at *; omega)) ?_ | fail))
      all_goals try contradiction
      exact ⟨12, by omega, by omega, run_back [0, 3, 7, 8] [5] (by simp; exact Gives.mk) (by simp; exact Gives.mk) (by simp [numA_12, hexA_12])⟩
    · rw [numA_12, hexA_12]
      repeat' (first | (first | refine ewp_seq ?_ | refine run_region hc (by simp [IntKind.bits, IntKind.wrap, IntKind.signed]; exact Ends.go) (by first | exact True.intro | omega | assumption | (simp; done) | (simp; omega) | (simp at *; omega)) ?_ | refine run_draw hc (by kernel_rfl) (by kernel_rfl) (by simp [IntKind.bits, IntKind.wrap, IntKind.signed]; exact Ends.go) (by first | exact True.intro | omega | assumption | (simp; done) | (simp; omega) | (simp at *; omega)) ?_ | refine ewp_scope ?_ | refine scopeQ_normal ?_ | refine scopeQ_ret ?_ | refine scopeQ_exit ?_ | refine ewp_skip ?_ | refine ewp_block ?_ | refine ewp_exit ?_ | refine ewp_label ?_ | refine thenQ_normal ?_ | refine thenQ_ret ?_ | refine thenQ_exit ?_ | refine blockQ_normal ?_ | refine blockQ_ret ?_ | refine blockQ_here ?_ | refine blockQ_there (by decide) ?_ | refine ewp_ret ?_ | refine opsW_nil ?_ | refine quietW_nil ?_ | (refine run_cond (by simp [IntKind.bits, IntKind.wrap, IntKind.signed]; exact Gives.mk) (fun hb => ?_) (fun hb => ?_) <;> (try simp at hb)) | fail) | (first | refine run_callW hc (by simp [IntKind.bits, IntKind.wrap, IntKind.signed]; exact Gives.mk) (by simp [IntKind.bits, IntKind.wrap, IntKind.signed]; exact Gives.mk) (by simp [IntKind.bits, IntKind.wrap, IntKind.signed]; exact Gives.mk) (by simp [IntKind.bits, IntKind.wrap, IntKind.signed]; exact Gives.mk) (by simp [IntKind.bits, IntKind.wrap, IntKind.signed]; exact Gives.mk) (fun _ => by first | exact trivial) (by simp) (by simp) ?_ | refine run_callQ hc (by simp [IntKind.bits, IntKind.wrap, IntKind.signed]; exact Gives.mk) (by simp [IntKind.bits, IntKind.wrap, IntKind.signed]; exact Gives.mk) (by simp [IntKind.bits, IntKind.wrap, IntKind.signed]; exact Gives.mk) (by simp [IntKind.bits, IntKind.wrap, IntKind.signed]; exact Gives.mk) (by simp [IntKind.bits, IntKind.wrap, IntKind.signed]; exact Gives.mk) (fun _ => by first | exact trivial) (by simp) (by simp) ?_ | refine run_ops hc (by simp [IntKind.bits, IntKind.wrap, IntKind.signed]; first | exact Ends.go | exact Ends.halt) (by decide) (by first | exact True.intro | omega | assumption | (simp; done) | (simp; omega) | (simp at *; omega)) ?_ | refine run_quiet hc (by simp [IntKind.bits, IntKind.wrap, IntKind.signed]; first | exact Ends.go | exact Ends.halt) (by decide) (by first | exact True.intro | omega | assumption | (simp; done) | (simp; omega) | (simp at *; omega)) ?_ | refine run_regionW hc (by simp [IntKind.bits, IntKind.wrap, IntKind.signed]; exact Ends.halt) (by first | exact True.intro | omega | assumption | (simp; done) | (simp; omega) | (simp at *; omega)) ?_ | refine run_drawN hc (by kernel_rfl) (by decide) (by kernel_rfl) (by simp [IntKind.bits, IntKind.wrap, IntKind.signed]; exact Ends.halt) (by first | exact True.intro | omega | assumption | (simp; done) | (simp; omega) | (simp at *; omega)) ?_ | fail))
      all_goals try contradiction
      exact ⟨13, by omega, by omega, run_back [0, 3, 7, 8] [5] (by simp; exact Gives.mk) (by simp; exact Gives.mk) (by simp [numA_13, hexA_13])⟩
    · rw [numA_13, hexA_13]
      repeat' (first | (first | refine ewp_seq ?_ | refine run_region hc (by simp [IntKind.bits, IntKind.wrap, IntKind.signed]; exact Ends.go) (by first | exact True.intro | omega | assumption | (simp; done) | (simp; omega) | (simp at *; omega)) ?_ | refine run_draw hc (by kernel_rfl) (by kernel_rfl) (by simp [IntKind.bits, IntKind.wrap, IntKind.signed]; exact Ends.go) (by first | exact True.intro | omega | assumption | (simp; done) | (simp; omega) | (simp at *; omega)) ?_ | refine ewp_scope ?_ | refine scopeQ_normal ?_ | refine scopeQ_ret ?_ | refine scopeQ_exit ?_ | refine ewp_skip ?_ | refine ewp_block ?_ | refine ewp_exit ?_ | refine ewp_label ?_ | refine thenQ_normal ?_ | refine thenQ_ret ?_ | refine thenQ_exit ?_ | refine blockQ_normal ?_ | refine blockQ_ret ?_ | refine blockQ_here ?_ | refine blockQ_there (by decide) ?_ | refine ewp_ret ?_ | refine opsW_nil ?_ | refine quietW_nil ?_ | (refine run_cond (by simp [IntKind.bits, IntKind.wrap, IntKind.signed]; exact Gives.mk) (fun hb => ?_) (fun hb => ?_) <;> (try simp at hb)) | fail) | (first | refine run_callW hc (by simp [IntKind.bits, IntKind.wrap, IntKind.signed]; exact Gives.mk) (by simp [IntKind.bits, IntKind.wrap, IntKind.signed]; exact Gives.mk) (by simp [IntKind.bits, IntKind.wrap, IntKind.signed]; exact Gives.mk) (by simp [IntKind.bits, IntKind.wrap, IntKind.signed]; exact Gives.mk) (by simp [IntKind.bits, IntKind.wrap, IntKind.signed]; exact Gives.mk) (fun _ => by first | exact trivial) (by simp) (by simp) ?_ | refine run_callQ hc (by simp [IntKind.bits, IntKind.wrap, IntKind.signed]; exact Gives.mk) (by simp [IntKind.bits, IntKind.wrap, IntKind.signed]; exact Gives.mk) (by simp [IntKind.bits, IntKind.wrap, IntKind.signed]; exact Gives.mk) (by simp [IntKind.bits, IntKind.wrap, IntKind.signed]; exact Gives.mk) (by simp [IntKind.bits, IntKind.wrap, IntKind.signed]; exact Gives.mk) (fun _ => by first | exact trivial) (by simp) (by simp) ?_ | refine run_ops hc (by simp [IntKind.bits, IntKind.wrap, IntKind.signed]; first | exact Ends.go | exact Ends.halt) (by decide) (by first | exact True.intro | omega | assumption | (simp; done) | (simp; omega) | (simp at *; omega)) ?_ | refine run_quiet hc (by simp [IntKind.bits, IntKind.wrap, IntKind.signed]; first | exact Ends.go | exact Ends.halt) (by decide) (by first | exact True.intro | omega | assumption | (simp; done) | (simp; omega) | (simp at *; omega)) ?_ | refine run_regionW hc (by simp [IntKind.bits, IntKind.wrap, IntKind.signed]; exact Ends.halt) (by first | exact True.intro | omega | assumption | (simp; done) | (simp; omega) | (simp at *; omega)) ?_ | refine run_drawN hc (by kernel_rfl) (by decide) (by kernel_rfl) (by simp [IntKind.bits, IntKind.wrap, IntKind.signed]; exact Ends.halt) (by first | exact True.intro | omega | assumption | (simp; done) | (simp; omega) | (simp at *; omega)) ?_ | fail))
      all_goals try contradiction
      exact ⟨14, by omega, by omega, run_back [0, 3, 7, 8] [5] (by simp; exact Gives.mk) (by simp; exact Gives.mk) (by simp [numA_14, hexA_14])⟩
    · rw [numA_14, hexA_14]
      repeat' (first | (first | refine ewp_seq ?_ | refine run_region hc (by simp [IntKind.bits, IntKind.wrap, IntKind.signed]; exact Ends.go) (by first | exact True.intro | omega | assumption | (simp; done) | (simp; omega) | (simp at *; omega)) ?_ | refine run_draw hc (by kernel_rfl) (by kernel_rfl) (by simp [IntKind.bits, IntKind.wrap, IntKind.signed]; exact Ends.go) (by first | exact True.intro | omega | assumption | (simp; done) | (simp; omega) | (simp at *; omega)) ?_ | refine ewp_scope ?_ | refine scopeQ_normal ?_ | refine scopeQ_ret ?_ | refine scopeQ_exit ?_ | refine ewp_skip ?_ | refine ewp_block ?_ | refine ewp_exit ?_ | refine ewp_label ?_ | refine thenQ_normal ?_ | refine thenQ_ret ?_ | refine thenQ_exit ?_ | refine blockQ_normal ?_ | refine blockQ_ret ?_ | refine blockQ_here ?_ | refine blockQ_there (by decide) ?_ | refine ewp_ret ?_ | refine opsW_nil ?_ | refine quietW_nil ?_ | (refine run_cond (by simp [IntKind.bits, IntKind.wrap, IntKind.signed]; exact Gives.mk) (fun hb => ?_) (fun hb => ?_) <;> (try simp at hb)) | fail) | (first | refine run_callW hc (by simp [IntKind.bits, IntKind.wrap, IntKind.signed]; exact Gives.mk) (by simp [IntKind.bits, IntKind.wrap, IntKind.signed]; exact Gives.mk) (by simp [IntKind.bits, IntKind.wrap, IntKind.signed]; exact Gives.mk) (by simp [IntKind.bits, IntKind.wrap, IntKind.signed]; exact Gives.mk) (by simp [IntKind.bits, IntKind.wrap, IntKind.signed]; exact Gives.mk) (fun _ => by first | exact trivial) (by simp) (by simp) ?_ | refine run_callQ hc (by simp [IntKind.bits, IntKind.wrap, IntKind.signed]; exact Gives.mk) (by simp [IntKind.bits, IntKind.wrap, IntKind.signed]; exact Gives.mk) (by simp [IntKind.bits, IntKind.wrap, IntKind.signed]; exact Gives.mk) (by simp [IntKind.bits, IntKind.wrap, IntKind.signed]; exact Gives.mk) (by simp [IntKind.bits, IntKind.wrap, IntKind.signed]; exact Gives.mk) (fun _ => by first | exact trivial) (by simp) (by simp) ?_ | refine run_ops hc (by simp [IntKind.bits, IntKind.wrap, IntKind.signed]; first | exact Ends.go | exact Ends.halt) (by decide) (by first | exact True.intro | omega | assumption | (simp; done) | (simp; omega) | (simp at *; omega)) ?_ | refine run_quiet hc (by simp [IntKind.bits, IntKind.wrap, IntKind.signed]; first | exact Ends.go | exact Ends.halt) (by decide) (by first | exact True.intro | omega | assumption | (simp; done) | (simp; omega) | (simp at *; omega)) ?_ | refine run_regionW hc (by simp [IntKind.bits, IntKind.wrap, IntKind.signed]; exact Ends.halt) (by first | exact True.intro | omega | assumption | (simp; done) | (simp; omega) | (simp at *; omega)) ?_ | refine run_drawN hc (by kernel_rfl) (by decide) (by kernel_rfl) (by simp [IntKind.bits, IntKind.wrap, IntKind.signed]; exact Ends.halt) (by first | exact True.intro | omega | assumption | (simp; done) | (simp; omega) | (simp at *; omega)) ?_ | fail))
      all_goals try contradiction
      exact ⟨15, by omega, by omega, run_back [0, 3, 7, 8] [5] (by simp; exact Gives.mk) (by simp; exact Gives.mk) (by simp [numA_15, hexA_15])⟩
    · rw [numA_15, hexA_15]
      repeat' (first | (first | refine ewp_seq ?_ | refine run_region hc (by simp [IntKind.bits, IntKind.wrap, IntKind.signed]; exact Ends.go) (by first | exact True.intro | omega | assumption | (simp; done) | (simp; omega) | (simp at *; omega)) ?_ | refine run_draw hc (by kernel_rfl) (by kernel_rfl) (by simp [IntKind.bits, IntKind.wrap, IntKind.signed]; exact Ends.go) (by first | exact True.intro | omega | assumption | (simp; done) | (simp; omega) | (simp at *; omega)) ?_ | refine ewp_scope ?_ | refine scopeQ_normal ?_ | refine scopeQ_ret ?_ | refine scopeQ_exit ?_ | refine ewp_skip ?_ | refine ewp_block ?_ | refine ewp_exit ?_ | refine ewp_label ?_ | refine thenQ_normal ?_ | refine thenQ_ret ?_ | refine thenQ_exit ?_ | refine blockQ_normal ?_ | refine blockQ_ret ?_ | refine blockQ_here ?_ | refine blockQ_there (by decide) ?_ | refine ewp_ret ?_ | refine opsW_nil ?_ | refine quietW_nil ?_ | (refine run_cond (by simp [IntKind.bits, IntKind.wrap, IntKind.signed]; exact Gives.mk) (fun hb => ?_) (fun hb => ?_) <;> (try simp at hb)) | fail) | (first | refine run_callW hc (by simp [IntKind.bits, IntKind.wrap, IntKind.signed]; exact Gives.mk) (by simp [IntKind.bits, IntKind.wrap, IntKind.signed]; exact Gives.mk) (by simp [IntKind.bits, IntKind.wrap, IntKind.signed]; exact Gives.mk) (by simp [IntKind.bits, IntKind.wrap, IntKind.signed]; exact Gives.mk) (by simp [IntKind.bits, IntKind.wrap, IntKind.signed]; exact Gives.mk) (fun _ => by first | exact trivial) (by simp) (by simp) ?_ | refine run_callQ hc (by simp [IntKind.bits, IntKind.wrap, IntKind.signed]; exact Gives.mk) (by simp [IntKind.bits, IntKind.wrap, IntKind.signed]; exact Gives.mk) (by simp [IntKind.bits, IntKind.wrap, IntKind.signed]; exact Gives.mk) (by simp [IntKind.bits, IntKind.wrap, IntKind.signed]; exact Gives.mk) (by simp [IntKind.bits, IntKind.wrap, IntKind.signed]; exact Gives.mk) (fun _ => by first | exact trivial) (by simp) (by simp) ?_ | refine run_ops hc (by simp [IntKind.bits, IntKind.wrap, IntKind.signed]; first | exact Ends.go | exact Ends.halt) (by decide) (by first | exact True.intro | omega | assumption | (simp; done) | (simp; omega) | (simp at *; omega)) ?_ | refine run_quiet hc (by simp [IntKind.bits, IntKind.wrap, IntKind.signed]; first | exact Ends.go | exact Ends.halt) (by decide) (by first | exact True.intro | omega | assumption | (simp; done) | (simp; omega) | (simp at *; omega)) ?_ | refine run_regionW hc (by simp [IntKind.bits, IntKind.wrap, IntKind.signed]; exact Ends.halt) (by first | exact True.intro | omega | assumption | (simp; done) | (simp; omega) | (simp at *; omega)) ?_ | refine run_drawN hc (by kernel_rfl) (by decide) (by kernel_rfl) (by simp [IntKind.bits, IntKind.wrap, IntKind.signed]; exact Ends.halt) (by first | exact True.intro | omega | assumption | (simp; done) | (simp; omega) | (simp at *; omega)) ?_ | fail))
      all_goals try contradiction
      exact ⟨16, by omega, by omega, run_back [0, 3, 7, 8] [5] (by simp; exact Gives.mk) (by simp; exact Gives.mk) (by simp [numA_16, hexA_16])⟩
  · obtain rfl : i = 16 := by omega
    have hx : hexA 16 = dig0 := hexA_16
    have hxl : (hexA 16).length = 16 := by rw [hx]; rfl
    rw [← hx]
    generalize hexA 16 = m at hx hxl ⊢
    repeat' (first | (first | refine Ya ?_ | refine Yb ?_ | refine Yc ?_ | refine Yd ?_ | refine Ye ?_ | refine Yf ?_ | refine Yg ?_ | refine Yh ?_ | refine Yi ?_ | refine Yj ?_ | refine Yk ?_ | refine Yl ?_ | refine Ym ?_ | refine Yn ?_ | refine Yo ?_ | refine Yp (h := ?_) | refine Yq ?_ | refine Yr ?_ | refine Ys ?_ | refine Zr hc (hk := ?_) | refine Zd hc (hk := ?_) | (refine Zc (ht := fun hb => ?_) (hf := fun hb => ?_) <;> (try simp at hb)) | fail) | (first | refine Zo hc (hk := ?_) | refine Zu hc (hk := ?_) | refine Ze hc (hk := ?_) | refine Zn hc (hk := ?_) | fail))
    all_goals try contradiction
    all_goals try (exfalso; omega)
    (refine Zl hc (hr := ?_))
    simp
    rw [← List.map_map]
    exact oneByte_map m
theorem digest0_ok : FnOk Tryz.prog 20 [.lit (.slice none 0 0)] (str dig0) := by
  refine fnOk Tryz.func20 rfl (by kernel_rfl) Tryz.ntmps20 _ rfl (by simp) fun C hc => ?_
  have h1 := mixed0_ok
  have h2 := hex0_ok
  repeat' (first | (first | refine Ya ?_ | refine Yb ?_ | refine Yc ?_ | refine Yd ?_ | refine Ye ?_ | refine Yf ?_ | refine Yg ?_ | refine Yh ?_ | refine Yi ?_ | refine Yj ?_ | refine Yk ?_ | refine Yl ?_ | refine Ym ?_ | refine Yn ?_ | refine Yo ?_ | refine Yp (h := ?_) | refine Yq ?_ | refine Yr ?_ | refine Ys ?_ | refine Zr hc (hk := ?_) | refine Zd hc (hk := ?_) | (refine Zc (ht := fun hb => ?_) (hf := fun hb => ?_) <;> (try simp at hb)) | fail) | (first | refine Zw hc (hf := by first | exact h1 | exact h2) (hk := ?_) | refine Zq hc (hf := by first | exact h1 | exact h2) (hk := ?_) | refine Zo hc (hk := ?_) | refine Zu hc (hk := ?_) | refine Ze hc (hk := ?_) | refine Zn hc (hk := ?_) | fail))
  (refine Zl hc (hr := ?_))
  simp
end Go.Proofs.YtpmfmjgnhdfakaaGreatDoor
/-
  ROBOTS: CheckSiteMap, Proper. (WITH run_drawN.)
-/
set_option linter.unusedSimpArgs false
set_option linter.unusedVariables false
namespace Go.Proofs.YtpmfmjgnhdfakaaGreatDoor
open Go.Lw Go.RowKit Go.ChangeShapes Go.WideShapes Go.ChangeAt
set_option maxRecDepth 100000
set_option maxHeartbeats 2000000

/-- Entries of a list of addresses: the address, the day, the weight. -/
abbrev Ent := Bs × Int × Int
abbrev entC (x : Ent) : List D := [str x.1, int x.2.1, int x.2.2]
abbrev entAt (M : List Ent) (j : Nat) : Ent := M[j]?.getD ([], 0, 0)
abbrev entSl (M : List Ent) : D := .sl M.length fun i => entC (entAt M i)
structure SMap where
  index : Bool
  ents : List Ent
abbrev smD (m : SMap) : D := .agg [tru m.index, entSl m.ents]
def mapGo (b : Bool) (M : List Ent) (j : Nat) : Nat := if j < M.length then
    (if (readC (entAt M j).1).2.2 ≠ 0 then 3 else if (entAt M j).2.1 < 0 ∨ 3652059 < (entAt M j).2.1 ∨ (entAt M j).2.2 < -1 ∨ 10 < (entAt M j).2.2 then 1 else if b = true ∧ (entAt M j).2.2 ≠ -1 then 3 else mapGo b M (j + 1)) else 0
termination_by M.length - j
def mapE (m : SMap) : Nat := if 1000 < m.ents.length then 2 else mapGo m.index m.ents 0
theorem mapGo_zero {b : Bool} {M : List Ent} {j : Nat} (h : mapGo b M j = 0) : ∀ i, j ≤ i → i < M.length → (readC (entAt M i).1).2.2 = 0 := by
  rw [mapGo] at h
  intro i h1 h2
  rw [if_pos (by omega)] at h
  split at h
  · cases h
  rename_i k1
  split at h
  · cases h
  split at h
  · cases h
  rcases Nat.lt_or_ge j i with h3 | h3
  · exact mapGo_zero h i (by omega) h2
  · obtain rfl : i = j := by omega
    exact Classical.not_not.1 k1
termination_by M.length - j
theorem mapE_zero {m : SMap} (h : mapE m = 0) : m.ents.length ≤ 1000 ∧ ∀ i, i < m.ents.length → (readC (entAt m.ents i).1).2.2 = 0 := by
  unfold mapE at h
  split at h
  · cases h
  · exact ⟨by omega, fun i hi => mapGo_zero h i (Nat.zero_le _) hi⟩
abbrev MapFits (m : SMap) : Prop := ∀ i, (entAt m.ents i).1.length ≤ 9223372036854775807
theorem checkMap_ok (m : SMap) (hm : MapFits m) : FnOk Tryz.prog 14 [smD m] (int (mapE m)) := by
  refine fnOk Tryz.func14 rfl (by kernel_rfl) Tryz.ntmps14 _ rfl (by simp) fun C hc => ?_
  obtain ⟨b, M⟩ := m
  unfold mapE
  simp only at hm ⊢
  repeat' (first | (first | refine Ya ?_ | refine Yb ?_ | refine Yc ?_ | refine Yd ?_ | refine Ye ?_ | refine Yf ?_ | refine Yg ?_ | refine Yh ?_ | refine Yi ?_ | refine Yj ?_ | refine Yk ?_ | refine Yl ?_ | refine Ym ?_ | refine Yn ?_ | refine Yo ?_ | refine Yp (h := ?_) | refine Yq ?_ | refine Yr ?_ | refine Ys ?_ | refine Zr hc (hk := ?_) | refine Zd hc (hk := ?_) | (refine Zc (ht := fun hb => ?_) (hf := fun hb => ?_) <;> (try simp at hb)) | fail) | (first | refine Zo hc (hk := ?_) | refine Zu hc (hk := ?_) | refine Ze hc (hk := ?_) | refine Zn hc (hk := ?_) | fail))
  · rw [if_pos (by omega)]
    (refine Zl hc (hr := ?_))
    simp
  rw [if_neg (by omega)]
  refine ewp_loop (fun j : Nat => ⟨[(1, .bp 1 0), (13, .d (entSl M)), (14, .d (int M.length)), (15, .d (int j))], [(1, .box 24 [.d (tru b), .d (entSl M)])]⟩) (fun j => j ≤ M.length ∧ mapGo b M 0 = mapGo b M j) (fun j => M.length - j) 0 (by simp) (run_keep [1, 13, 14, 15] [1] (by simp; exact Gives.mk) (by simp; exact Gives.mk)) ?_
  rintro j ⟨hj, hA⟩
  have hst : mapGo b M j = if j < M.length then
    (if (readC (entAt M j).1).2.2 ≠ 0 then 3 else if (entAt M j).2.1 < 0 ∨ 3652059 < (entAt M j).2.1 ∨ (entAt M j).2.2 < -1 ∨ 10 < (entAt M j).2.2 then 1 else if b = true ∧ (entAt M j).2.2 ≠ -1 then 3 else mapGo b M (j + 1)) else 0 := by rw [mapGo]
  by_cases hlt : j < M.length
  rotate_left
  · rw [hA, hst, if_neg hlt]
    repeat' (first | (first | refine Ya ?_ | refine Yb ?_ | refine Yc ?_ | refine Yd ?_ | refine Ye ?_ | refine Yf ?_ | refine Yg ?_ | refine Yh ?_ | refine Yi ?_ | refine Yj ?_ | refine Yk ?_ | refine Yl ?_ | refine Ym ?_ | refine Yn ?_ | refine Yo ?_ | refine Yp (h := ?_) | refine Yq ?_ | refine Yr ?_ | refine Ys ?_ | refine Zr hc (hk := ?_) | refine Zd hc (hk := ?_) | (refine Zc (ht := fun hb => ?_) (hf := fun hb => ?_) <;> (try simp at hb)) | fail) | (first | refine Zo hc (hk := ?_) | refine Zu hc (hk := ?_) | refine Ze hc (hk := ?_) | refine Zn hc (hk := ?_) | fail))
    all_goals try (exfalso; omega)
    (refine Zl hc (hr := ?_))
    simp
  rw [if_pos hlt] at hst
  have hR := read_ok (entAt M j).1 (hm j)
  generalize readC (entAt M j).1 = r at hR hst
  obtain ⟨r, n, f⟩ := r
  simp only [readD] at hR hst
  by_cases h1 : f = 0
  rotate_left
  · rw [hA, hst, if_pos h1]
    repeat' (first | (first | refine Ya ?_ | refine Yb ?_ | refine Yc ?_ | refine Yd ?_ | refine Ye ?_ | refine Yf ?_ | refine Yg ?_ | refine Yh ?_ | refine Yi ?_ | refine Yj ?_ | refine Yk ?_ | refine Yl ?_ | refine Ym ?_ | refine Yn ?_ | refine Yo ?_ | refine Yp (h := ?_) | refine Yq ?_ | refine Yr ?_ | refine Ys ?_ | refine Zr hc (hk := ?_) | refine Zd hc (hk := ?_) | (refine Zc (ht := fun hb => ?_) (hf := fun hb => ?_) <;> (try simp at hb)) | fail) | (first | refine Zw hc (hf := by exact hR) (hk := ?_) | refine Zq hc (hf := by exact hR) (hk := ?_) | refine Zo hc (hk := ?_) | refine Zu hc (hk := ?_) | refine Ze hc (hk := ?_) | refine Zn hc (hk := ?_) | fail))
    all_goals try contradiction
    all_goals try (exfalso; omega)
    (refine Zl hc (hr := ?_))
    simp
  rw [if_neg (fun e => e h1)] at hst
  subst h1
  by_cases h2 : (entAt M j).2.1 < 0 ∨ 3652059 < (entAt M j).2.1 ∨ (entAt M j).2.2 < -1 ∨ 10 < (entAt M j).2.2
  · rw [hA, hst, if_pos h2]
    repeat' (first | (first | refine Ya ?_ | refine Yb ?_ | refine Yc ?_ | refine Yd ?_ | refine Ye ?_ | refine Yf ?_ | refine Yg ?_ | refine Yh ?_ | refine Yi ?_ | refine Yj ?_ | refine Yk ?_ | refine Yl ?_ | refine Ym ?_ | refine Yn ?_ | refine Yo ?_ | refine Yp (h := ?_) | refine Yq ?_ | refine Yr ?_ | refine Ys ?_ | refine Zr hc (hk := ?_) | refine Zd hc (hk := ?_) | (refine Zc (ht := fun hb => ?_) (hf := fun hb => ?_) <;> (try simp at hb)) | fail) | (first | refine Zw hc (hf := by exact hR) (hk := ?_) | refine Zq hc (hf := by exact hR) (hk := ?_) | refine Zo hc (hk := ?_) | refine Zu hc (hk := ?_) | refine Ze hc (hk := ?_) | refine Zn hc (hk := ?_) | fail))
    all_goals try contradiction
    all_goals try (exfalso; omega)
    (refine Zl hc (hr := ?_))
    simp
  rw [if_neg h2] at hst
  cases b with
  | false =>
    rw [if_neg (fun h => by cases h.1)] at hst
    repeat' (first | (first | refine Ya ?_ | refine Yb ?_ | refine Yc ?_ | refine Yd ?_ | refine Ye ?_ | refine Yf ?_ | refine Yg ?_ | refine Yh ?_ | refine Yi ?_ | refine Yj ?_ | refine Yk ?_ | refine Yl ?_ | refine Ym ?_ | refine Yn ?_ | refine Yo ?_ | refine Yp (h := ?_) | refine Yq ?_ | refine Yr ?_ | refine Ys ?_ | refine Zr hc (hk := ?_) | refine Zd hc (hk := ?_) | (refine Zc (ht := fun hb => ?_) (hf := fun hb => ?_) <;> (try simp at hb)) | fail) | (first | refine Zw hc (hf := by exact hR) (hk := ?_) | refine Zq hc (hf := by exact hR) (hk := ?_) | refine Zo hc (hk := ?_) | refine Zu hc (hk := ?_) | refine Ze hc (hk := ?_) | refine Zn hc (hk := ?_) | fail))
    all_goals try contradiction
    all_goals try (exfalso; omega)
    exact ⟨j + 1, ⟨by omega, hA.trans hst⟩, by omega, run_back [1, 13, 14, 15] [1] (by simp; exact Gives.mk) (by simp; exact Gives.mk) (by simp)⟩
  | true =>
    repeat' (first | (first | refine Ya ?_ | refine Yb ?_ | refine Yc ?_ | refine Yd ?_ | refine Ye ?_ | refine Yf ?_ | refine Yg ?_ | refine Yh ?_ | refine Yi ?_ | refine Yj ?_ | refine Yk ?_ | refine Yl ?_ | refine Ym ?_ | refine Yn ?_ | refine Yo ?_ | refine Yp (h := ?_) | refine Yq ?_ | refine Yr ?_ | refine Ys ?_ | refine Zr hc (hk := ?_) | refine Zd hc (hk := ?_) | (refine Zc (ht := fun hb => ?_) (hf := fun hb => ?_) <;> (try simp at hb)) | fail) | (first | refine Zw hc (hf := by exact hR) (hk := ?_) | refine Zq hc (hf := by exact hR) (hk := ?_) | refine Zo hc (hk := ?_) | refine Zu hc (hk := ?_) | refine Ze hc (hk := ?_) | refine Zn hc (hk := ?_) | fail))
    all_goals try contradiction
    all_goals try (exfalso; omega)
    · rw [hA, hst, if_pos ⟨rfl, by omega⟩]
      (refine Zl hc (hr := ?_))
      simp
    · exact ⟨j + 1, ⟨by omega, by rw [hA, hst, if_neg (fun h => h.2 (by omega))]⟩, by omega, run_back [1, 13, 14, 15] [1] (by simp; exact Gives.mk) (by simp; exact Gives.mk) (by simp)⟩
/-- The normal form of the address of a text. -/
def nrmT (s : Bs) : Adr := (normalC (readC s).1).1
theorem nrmC_fits (a : Adr) : (normalC a).1.Fits := by
  have hz : Adr.zero.Fits := ⟨by simp, by simp, by simp, by simp, by simp, by simp⟩
  unfold normalC
  split
  · exact hz
  · rename_i h
    split
    · exact hz
    · exact norm_fits (Classical.not_not.1 h)
theorem rdC_fits (s : Bs) : (readC s).1.Fits := by
  have hz : Adr.zero.Fits := ⟨by simp, by simp, by simp, by simp, by simp, by simp⟩
  rcases readC_back s with ⟨_, h⟩ | ⟨_, _, h, _⟩
  · rw [h]; exact hz
  · exact chk_fits h
theorem normalOf_ok (s : Bs) (hm : s.length ≤ 9223372036854775807) : FnOk Tryz.prog 17 [str s] (adrD (nrmT s)) := by
  refine fnOk Tryz.func17 rfl (by kernel_rfl) Tryz.ntmps17 _ rfl (by simp) fun C hc => ?_
  have hR := read_ok s hm
  have hN := normal_ok' normal_is (readC s).1 (rdC_fits s)
  unfold nrmT
  generalize readC s = r at hR hN ⊢
  obtain ⟨r, n, f⟩ := r
  simp only [readD] at hR hN ⊢
  generalize normalC r = q at hN ⊢
  repeat' (first | (first | refine Ya ?_ | refine Yb ?_ | refine Yc ?_ | refine Yd ?_ | refine Ye ?_ | refine Yf ?_ | refine Yg ?_ | refine Yh ?_ | refine Yi ?_ | refine Yj ?_ | refine Yk ?_ | refine Yl ?_ | refine Ym ?_ | refine Yn ?_ | refine Yo ?_ | refine Yp (h := ?_) | refine Yq ?_ | refine Yr ?_ | refine Ys ?_ | refine Zr hc (hk := ?_) | refine Zd hc (hk := ?_) | (refine Zc (ht := fun hb => ?_) (hf := fun hb => ?_) <;> (try simp at hb)) | fail) | (first | refine Zw hc (hf := by first | exact hR | exact hN) (hk := ?_) | refine Zq hc (hf := by first | exact hR | exact hN) (hk := ?_) | refine Zo hc (hk := ?_) | refine Zu hc (hk := ?_) | refine Ze hc (hk := ?_) | refine Zn hc (hk := ?_) | fail))
  (refine Zl hc (hr := ?_))
  simp
/-- The folder of a path. -/
def fldK (p : Bs) : Nat := (Lib.lastIndexByte (bs p) 47 + 1).toNat
theorem fldK_at (p : Bs) : Lib.lastIndexByte (bs p) 47 = (fldK p : Int) - 1 ∧ fldK p ≤ p.length := by
  have h : ∃ k : Nat, Lib.lastIndexByte (bs p) 47 = (k : Int) - 1 ∧ k ≤ p.length := by
    unfold Lib.lastIndexByte
    rcases Lib.lastIdx_spec (bs p) 47 (bs p).size with ⟨h, _⟩ | ⟨i, h1, h2, _⟩
    · exact ⟨0, by rw [h]; rfl, Nat.zero_le _⟩
    · exact ⟨i + 1, by rw [h2]; omega, by simp at h1; omega⟩
  obtain ⟨k, h1, h2⟩ := h
  have e : fldK p = k := by unfold fldK; rw [h1]; omega
  rw [e]
  exact ⟨h1, h2⟩
def propB (n a : Adr) : Bool := decide (a.scheme = n.scheme) && decide (a.host = n.host) && decide (a.port = n.port) && (n.path.take (fldK n.path)).isPrefixOf a.path
/-- The entries that may stand in a list. -/
def propL (n : Adr) (M : List Ent) : Nat → List Nat
  | 0 => []
  | j + 1 => if propB n (nrmT (entAt M j).1) = true then propL n M j ++ [j] else propL n M j
abbrev natSl (L : List Nat) : D := .sl L.length fun i => [int (L[i]?.getD 0 : Nat)]
theorem propL_in (n : Adr) (M : List Ent) : ∀ j, (propL n M j).length ≤ j ∧ ∀ i ∈ propL n M j, i < j ∧ propB n (nrmT (entAt M i).1) = true
  | 0 => ⟨Nat.le_refl _, fun i hi => by cases hi⟩
  | j + 1 => by
    obtain ⟨h1, h2⟩ := propL_in n M j
    unfold propL
    split
    · rename_i h
      refine ⟨by simp; omega, fun i hi => ?_⟩
      rcases List.mem_append.1 hi with hi | hi
      · have := h2 i hi
        exact ⟨by omega, this.2⟩
      · rw [List.mem_singleton.1 hi]
        exact ⟨by omega, h⟩
    · refine ⟨by omega, fun i hi => ?_⟩
      have := h2 i hi
      exact ⟨by omega, this.2⟩
def prE (m : SMap) (a : Adr) : Nat := if mapE m ≠ 0 then mapE m else (normalC a).2
theorem proper_ok (m : SMap) (a : Adr) (hm : MapFits m) (ha : a.Fits) : FnOk Tryz.prog 4 [smD m, adrD a] (if prE m a = 0 then .tup [natSl (propL (normalC a).1 m.ents m.ents.length), int 0] else .tup [noL, int (prE m a)]) := by
  refine fnOk Tryz.func4 rfl (by kernel_rfl) Tryz.ntmps4 _ rfl (by simp) fun C hc => ?_
  have hM := checkMap_ok m hm
  have hN := normal_ok' normal_is a ha
  have hz := fun h => mapE_zero (m := m) h
  obtain ⟨b, M⟩ := m
  simp only at hm hz ⊢
  unfold prE
  by_cases h1 : mapE ⟨b, M⟩ = 0
  rotate_left
  · rw [if_pos h1, if_neg h1]
    repeat' (first | (first | refine Ya ?_ | refine Yb ?_ | refine Yc ?_ | refine Yd ?_ | refine Ye ?_ | refine Yf ?_ | refine Yg ?_ | refine Yh ?_ | refine Yi ?_ | refine Yj ?_ | refine Yk ?_ | refine Yl ?_ | refine Ym ?_ | refine Yn ?_ | refine Yo ?_ | refine Yp (h := ?_) | refine Yq ?_ | refine Yr ?_ | refine Ys ?_ | refine Zr hc (hk := ?_) | refine Zd hc (hk := ?_) | (refine Zc (ht := fun hb => ?_) (hf := fun hb => ?_) <;> (try simp at hb)) | fail) | (first | refine Zw hc (hf := by exact hM) (hk := ?_) | refine Zq hc (hf := by exact hM) (hk := ?_) | refine Zo hc (hk := ?_) | refine Zu hc (hk := ?_) | refine Ze hc (hk := ?_) | refine Zn hc (hk := ?_) | fail))
    all_goals try contradiction
    (refine Zl hc (hr := ?_))
    simp
  rw [if_neg (show ¬ mapE ⟨b, M⟩ ≠ 0 from fun e => e h1)]
  rw [h1] at hM
  obtain ⟨hl, hz2⟩ := hz h1
  have hnf := nrmC_fits a
  generalize normalC a = q at hN hnf ⊢
  obtain ⟨q, f⟩ := q
  simp only at hN hnf ⊢
  by_cases h2 : f = 0
  rotate_left
  · rw [if_neg h2]
    repeat' (first | (first | refine Ya ?_ | refine Yb ?_ | refine Yc ?_ | refine Yd ?_ | refine Ye ?_ | refine Yf ?_ | refine Yg ?_ | refine Yh ?_ | refine Yi ?_ | refine Yj ?_ | refine Yk ?_ | refine Yl ?_ | refine Ym ?_ | refine Yn ?_ | refine Yo ?_ | refine Yp (h := ?_) | refine Yq ?_ | refine Yr ?_ | refine Ys ?_ | refine Zr hc (hk := ?_) | refine Zd hc (hk := ?_) | (refine Zc (ht := fun hb => ?_) (hf := fun hb => ?_) <;> (try simp at hb)) | fail) | (first | refine Zw hc (hf := by first | exact hM | exact hN) (hk := ?_) | refine Zq hc (hf := by first | exact hM | exact hN) (hk := ?_) | refine Zo hc (hk := ?_) | refine Zu hc (hk := ?_) | refine Ze hc (hk := ?_) | refine Zn hc (hk := ?_) | fail))
    all_goals try contradiction
    (refine Zl hc (hr := ?_))
    simp
  rw [if_pos h2]
  subst h2
  have hp1 := hnf.path
  have hB : FnOk Tryz.prog 16 [str q.path, u8 47] (int ((fldK q.path : Int) - 1)) := by rw [← (fldK_at q.path).1]; exact lastByte_ok q.path 47 (by omega)
  have hk := (fldK_at q.path).2
  have hst : ∀ j, propL q M (j + 1) = if propB q (nrmT (entAt M j).1) = true then propL q M j ++ [j] else propL q M j := fun _ => rfl
  have hin := propL_in q M
  unfold propB at hst
  generalize fldK q.path = k at hB hk hst
  repeat' (first | (first | refine Ya ?_ | refine Yb ?_ | refine Yc ?_ | refine Yd ?_ | refine Ye ?_ | refine Yf ?_ | refine Yg ?_ | refine Yh ?_ | refine Yi ?_ | refine Yj ?_ | refine Yk ?_ | refine Yl ?_ | refine Ym ?_ | refine Yn ?_ | refine Yo ?_ | refine Yp (h := ?_) | refine Yq ?_ | refine Yr ?_ | refine Ys ?_ | refine Zr hc (hk := ?_) | refine Zd hc (hk := ?_) | (refine Zc (ht := fun hb => ?_) (hf := fun hb => ?_) <;> (try simp at hb)) | fail) | (first | refine Zw hc (hf := by first | exact hM | exact hN | exact hB) (hk := ?_) | refine Zq hc (hf := by first | exact hM | exact hN | exact hB) (hk := ?_) | refine Zo hc (hk := ?_) | refine Zu hc (hk := ?_) | refine Ze hc (hk := ?_) | refine Zn hc (hk := ?_) | fail))
  all_goals try contradiction
  generalize hP : propL q M = P at hst hin ⊢
  have hP0 : P 0 = [] := by rw [← hP]; rfl
  clear hP
  refine ewp_loop (fun j : Nat => ⟨[(7, .bp 7 0), (9, .d (str (q.path.take k))), (10, .os 40000 (P j).length), (35, .d (entSl M)), (36, .d (int M.length)), (37, .d (int j))], [(7, .box 26 ((adrL q).map V.d)), (40000, .own 3 1 (true, [int 0]) ((P j).map fun y => [int (y : Nat)]))]⟩) (fun j => j ≤ M.length) (fun j => M.length - j) 0 (by simp) (by
    simp only [hP0]
    exact run_keepB [(10, none, 40000, 3, [int 0])] [7, 9, 10, 35, 36, 37] [7, 40000] (by simp; exact Gives.mk) (by simp; exact Gives.mk) (by simp; exact Gives.mk)) ?_
  intro j hj
  have hs := hst j
  have hPl := (hin j).1
  by_cases hlt : j < M.length
  · have hO := normalOf_ok (entAt M j).1 (hm j)
    generalize nrmT (entAt M j).1 = t at hO hs
    have hH := hasPrefix_ok t.path (q.path.take k)
    generalize (q.path.take k).isPrefixOf t.path = pb at hH hs
    generalize hPj : P j = L at *
    by_cases hc4 : t.scheme = q.scheme ∧ t.host = q.host ∧ t.port = q.port ∧ pb = true
    · obtain ⟨c1, c2, c3, c4⟩ := hc4
      subst c4
      rw [c1, c2, c3, if_pos (by simp)] at hs
      repeat' (first | (first | refine Ya ?_ | refine Yb ?_ | refine Yc ?_ | refine Yd ?_ | refine Ye ?_ | refine Yf ?_ | refine Yg ?_ | refine Yh ?_ | refine Yi ?_ | refine Yj ?_ | refine Yk ?_ | refine Yl ?_ | refine Ym ?_ | refine Yn ?_ | refine Yo ?_ | refine Yp (h := ?_) | refine Yq ?_ | refine Yr ?_ | refine Ys ?_ | refine Zr hc (hk := ?_) | refine Zd hc (hk := ?_) | (refine Zc (ht := fun hb => ?_) (hf := fun hb => ?_) <;> (try simp at hb)) | fail) | (first | refine Zw hc (hf := by first | exact hO | exact hH) (hk := ?_) | refine Zq hc (hf := by first | exact hO | exact hH) (hk := ?_) | refine Zo hc (hk := ?_) | refine Zu hc (hk := ?_) | refine Ze hc (hk := ?_) | fail))
      all_goals try contradiction
      all_goals try (exfalso; omega)
      all_goals try (exfalso; simp_all; done)
      exact ⟨j + 1, by omega, by omega, run_back [7, 9, 10, 35, 36, 37] [7, 40000] (by simp; exact Gives.mk) (by simp; exact Gives.mk) (by simp [hs])⟩
    · rw [if_neg (fun h => hc4 (by simpa [and_assoc] using h))] at hs
      repeat' (first | (first | refine Ya ?_ | refine Yb ?_ | refine Yc ?_ | refine Yd ?_ | refine Ye ?_ | refine Yf ?_ | refine Yg ?_ | refine Yh ?_ | refine Yi ?_ | refine Yj ?_ | refine Yk ?_ | refine Yl ?_ | refine Ym ?_ | refine Yn ?_ | refine Yo ?_ | refine Yp (h := ?_) | refine Yq ?_ | refine Yr ?_ | refine Ys ?_ | refine Zr hc (hk := ?_) | refine Zd hc (hk := ?_) | (refine Zc (ht := fun hb => ?_) (hf := fun hb => ?_) <;> (try simp at hb)) | fail) | (first | refine Zw hc (hf := by first | exact hO | exact hH) (hk := ?_) | refine Zq hc (hf := by first | exact hO | exact hH) (hk := ?_) | refine Zo hc (hk := ?_) | refine Zu hc (hk := ?_) | refine Ze hc (hk := ?_) | fail))
      all_goals try contradiction
      all_goals try (exfalso; omega)
      all_goals try (exfalso; simp_all; done)
      exact ⟨j + 1, by omega, by omega, run_back [7, 9, 10, 35, 36, 37] [7, 40000] (by simp; exact Gives.mk) (by simp; exact Gives.mk) (by simp [hs])⟩
  · obtain rfl : j = M.length := by omega
    repeat' (first | (first | refine Ya ?_ | refine Yb ?_ | refine Yc ?_ | refine Yd ?_ | refine Ye ?_ | refine Yf ?_ | refine Yg ?_ | refine Yh ?_ | refine Yi ?_ | refine Yj ?_ | refine Yk ?_ | refine Yl ?_ | refine Ym ?_ | refine Yn ?_ | refine Yo ?_ | refine Yp (h := ?_) | refine Yq ?_ | refine Yr ?_ | refine Ys ?_ | refine Zr hc (hk := ?_) | refine Zd hc (hk := ?_) | (refine Zc (ht := fun hb => ?_) (hf := fun hb => ?_) <;> (try simp at hb)) | fail) | (first | refine Zo hc (hk := ?_) | refine Zu hc (hk := ?_) | refine Ze hc (hk := ?_) | fail))
    all_goals try contradiction
    all_goals try (exfalso; omega)
    (refine Zl hc (hr := ?_))
    simp
    funext i
    cases (P M.length)[i]? <;> rfl
theorem opn_ent : Opn Tryz.prog 44 entC (fun x : Ent => x.1.length ≤ reachBytes ∧ inR .i64 x.2.1 ∧ inR .i64 x.2.2) :=
  (opn_flds (total := 3) Tryz.underlying44 rfl (by kernel_rfl) (flds_cons (n := 1) (by kernel_rfl) (by simp) opn_sW (flds_cons (n := 1) (by kernel_rfl) (by simp) (opn_int Tryz.underlying3) (flds_cons (n := 1) (by kernel_rfl) (by simp) (opn_int Tryz.underlying3) flds_nil)))).map
    (fun x => ((x.1, x.2.1, x.2.2.1) : Ent)) (fun _ _ => rfl) (fun _ h => ⟨h.1, h.2.1, h.2.2.1⟩)
theorem opn_ents : Opn Tryz.prog 22 (fun l : List Ent => [entSl l]) (fun l => l.length ≤ maxLen ∧ ∀ x ∈ l, x.1.length ≤ reachBytes ∧ inR .i64 x.2.1 ∧ inR .i64 x.2.2) :=
  (opn_slice (([], 0, 0) : Ent) Tryz.underlying22 (n := 3) (by kernel_rfl) (by omega) opn_ent).map (fun l => l) (fun l _ => by simp [entAt, entSl]) (fun _ h => h)
def MapIn (m : SMap) : Prop := m.ents.length ≤ maxLen ∧ ∀ x ∈ m.ents, x.1.length ≤ reachBytes ∧ inR .i64 x.2.1 ∧ inR .i64 x.2.2
theorem opn_sm : Opn Tryz.prog 24 (fun m : SMap => [tru m.index, entSl m.ents]) MapIn :=
  (opn_flds (total := 2) Tryz.underlying24 rfl (by kernel_rfl) (flds_cons (n := 1) (by kernel_rfl) (by simp) (opn_bool Tryz.underlying4) (flds_cons (n := 1) (by kernel_rfl) (by simp) opn_ents flds_nil))).map
    (fun x => (⟨x.1, x.2.1⟩ : SMap)) (fun _ _ => rfl) (fun _ h => h.2.1)
theorem opnA_sm : OpnA Tryz.prog 24 smD MapIn := opnA_struct opn_sm Tryz.underlying24
theorem mapFits {m : SMap} (h : MapIn m) : MapFits m := fun i => by
  by_cases hi : i < m.ents.length
  · have := (h.2 _ (List.getElem_mem hi)).1
    unfold reachBytes at this
    unfold entAt
    rw [List.getElem?_eq_getElem hi]
    simp only [Option.getD_some]
    omega
  · unfold entAt
    rw [List.getElem?_eq_none (by omega)]
    simp
end Go.Proofs.YtpmfmjgnhdfakaaGreatDoor
/-
  TOP: TopListsFillFrontiers, walked. (WITH run_drawN.)
-/
set_option linter.unusedSimpArgs false
set_option linter.unusedVariables false
namespace Go.Proofs.YtpmfmjgnhdfakaaGreatDoor
open Go.Lw Go.RowKit Go.ChangeShapes Go.WideShapes Go.ChangeAt
set_option maxRecDepth 100000
set_option maxHeartbeats 4000000

theorem hostNm_ok (k : Bs) (h : (ofK k).2 = 0) : FnOk Tryz.prog 13 [str k] (str (hostK k)) := by
  refine fnOk Tryz.func13 rfl (by kernel_rfl) Tryz.ntmps13 _ rfl (by simp) fun C hc => ?_
  have h1 := qName_ok k h
  repeat' (first | (first | refine Ya ?_ | refine Yb ?_ | refine Yc ?_ | refine Yd ?_ | refine Ye ?_ | refine Yf ?_ | refine Yg ?_ | refine Yh ?_ | refine Yi ?_ | refine Yj ?_ | refine Yk ?_ | refine Yl ?_ | refine Ym ?_ | refine Yn ?_ | refine Yo ?_ | refine Yp (h := ?_) | refine Yq ?_ | refine Yr ?_ | refine Ys ?_ | refine Zr hc (hk := ?_) | refine Zd hc (hk := ?_) | (refine Zc (ht := fun hb => ?_) (hf := fun hb => ?_) <;> (try simp at hb)) | fail) | (first | refine Zw hc (hf := by exact h1) (hk := ?_) | refine Zq hc (hf := by exact h1) (hk := ?_) | refine Zo hc (hk := ?_) | refine Zu hc (hk := ?_) | refine Ze hc (hk := ?_) | refine Zn hc (hk := ?_) | fail))
  (refine Zl hc (hr := ?_))
  simp
theorem keyS_rul {a : Adr} {R : List Rul} (h : (keyS a R).2 = 0) : chkC a = 0 ∧ chkC (normA a) = 0 ∧ (keyS a R).1 = keyR (normA a) R := by
  unfold keyS at h ⊢
  by_cases h1 : chkC a = 0
  rotate_left
  · rw [if_pos h1] at h; exact absurd h h1
  rw [if_neg (show ¬ chkC a ≠ 0 from fun e => e h1)] at h ⊢
  by_cases h2 : sameC R = 0
  rotate_left
  · rw [if_pos h2] at h; exact absurd h h2
  rw [if_neg (show ¬ sameC R ≠ 0 from fun e => e h2)] at h ⊢
  by_cases h3 : chkC (normA a) = 0
  rotate_left
  · rw [if_pos h3] at h; exact absurd h h3
  rw [if_neg (show ¬ chkC (normA a) ≠ 0 from fun e => e h3)]
  exact ⟨h1, h3, rfl⟩
theorem keyS_err {a : Adr} {R : List Rul} (h : (keyS a R).2 ≠ 0) : (keyS a R).1 = [] := by
  unfold keyS at h ⊢
  split
  · rfl
  · split
    · rfl
    · split
      · rfl
      · rename_i h1 h2 h3
        rw [if_neg h1, if_neg h2, if_neg h3] at h
        exact absurd rfl h
theorem normalC_of {a : Adr} (h1 : chkC a = 0) (h2 : chkC (normA a) = 0) : normalC a = (normA a, 0) := by
  unfold normalC
  rw [if_neg (fun e => e h1), if_neg (fun e => e h2)]
/-- An entry that may stand in the list has a key of the list's host. -/
theorem same_host {at1 : Adr} {s : Bs} {R : List Rul} (h1 : (keyS at1 R).2 = 0) (h2 : (keyS (readC s).1 R).2 = 0) (hp : propB (normalC at1).1 (nrmT s) = true) : hostK (keyS (readC s).1 R).1 = hostK (keyS at1 R).1 := by
  obtain ⟨a1, a2, a3⟩ := keyS_rul h1
  obtain ⟨b1, b2, b3⟩ := keyS_rul h2
  rw [a3, b3]
  unfold propB nrmT at hp
  rw [normalC_of a1 a2, normalC_of b1 b2] at hp
  simp only [Bool.and_eq_true, decide_eq_true_eq] at hp
  exact hostK_keyR R hp.1.1.2 hp.1.2
theorem alive_ok : FnOk Tryz.prog 5 [] (tru true) := by
  refine fnOk Tryz.func5 rfl (by kernel_rfl) Tryz.ntmps5 _ rfl (by simp) fun C hc => ?_
  have h1 := dateTextF0_ok
  have h2 := hasPrefix_ok text0 [84, 104, 117, 44, 32, 48, 49, 32, 74, 97, 110, 32, 49, 57, 55, 48]
  rw [show ([84, 104, 117, 44, 32, 48, 49, 32, 74, 97, 110, 32, 49, 57, 55, 48] : Bs).isPrefixOf text0 = true from by decide] at h2
  have h3 := digest0_ok
  repeat' (first | (first | refine Ya ?_ | refine Yb ?_ | refine Yc ?_ | refine Yd ?_ | refine Ye ?_ | refine Yf ?_ | refine Yg ?_ | refine Yh ?_ | refine Yi ?_ | refine Yj ?_ | refine Yk ?_ | refine Yl ?_ | refine Ym ?_ | refine Yn ?_ | refine Yo ?_ | refine Yp (h := ?_) | refine Yq ?_ | refine Yr ?_ | refine Ys ?_ | refine Zr hc (hk := ?_) | refine Zd hc (hk := ?_) | (refine Zc (ht := fun hb => ?_) (hf := fun hb => ?_) <;> (try simp at hb)) | fail) | (first | refine Zw hc (hf := by first | exact h1 | exact h2 | exact h3) (hk := ?_) | refine Zq hc (hf := by first | exact h1 | exact h2 | exact h3) (hk := ?_) | refine Zo hc (hk := ?_) | refine Zu hc (hk := ?_) | refine Ze hc (hk := ?_) | refine Zn hc (hk := ?_) | fail))
  (refine Zl hc (hr := ?_))
  simp
abbrev ownK (K : List Bs) : Nat × O := (40000, .own 9 1 (true, [str []]) (K.map fun x => [str x]))
/-- The frontier on the way: nothing yet, or as Add gave it. -/
def FormI (I : List Wnt) (x y : D) : Prop := (I = [] ∧ x = noL ∧ y = noL) ∨ (x = wntSl I ∧ y = hstSl [])
theorem addAny_ok (I : List Wnt) (x y : D) (k : Bs) (hx : FormI I x y) (hf : FrOk ⟨I, [], 1, 1⟩) (hk : k.length ≤ 9223372036854775807) : FnOk Tryz.prog 9 [.agg [x, y, int 1, int 1], .agg [str k, int 0, int 0]] (addD ⟨I, [], 1, 1⟩ (k, 0, 0)) := by
  have h := frAdd_ok ⟨I, [], 1, 1⟩ (k, 0, 0) hf hk
  rcases hx with ⟨rfl, rfl, rfl⟩ | ⟨rfl, rfl⟩
  · exact FnOk.same (.cons (Same.agg (.cons (weak_nil _) (.cons (weak_nil _) (SameL.refl _)))) (SameL.refl _)) h
  · exact h
theorem inHost_ok (home key : Bs) (h1 : (ofK home).2 = 0) (h2 : (ofK key).2 = 0) (h3 : hostK key = hostK home) : FnOk Tryz.prog 10 [.sl 1 fun i => [[int 3, str home, tru false]][i]?.getD [int 0, str [], tru false], str key] (.tup [tru true, int 0]) := by
  have hl : ∀ s : Bs, (ofK s).2 = 0 → s.length ≤ 2000 := fun s h => (ofK_cases s).elim (fun h' => absurd h h'.1) (·.2.1)
  have hl1 := hl _ h1
  have hl2 := hl _ h2
  have h := inScope_ok [(3, home, false)] key (by simp) (fun j => by
    rcases j with _ | j
    · simp [scpAt]; omega
    · simp [scpAt]) (by omega)
  rw [inHost h1 h2 h3] at h
  exact FnOk.sim (.cons (.sl 1 _ _ fun i hi => by
    match i, hi with
    | 0, _ => rfl) (.cons (.refl _) .nil)) h
structure LsS where
  j : Nat
  I : List Wnt
  K : List Bs
  x : D
  y : D
theorem listsLaw_ok (m : SMap) (a : Adr) (R : List Rul) (hm : MapFits m) (ha : a.Fits) (hR : RulFits R) : FnOk Tryz.prog 3 [smD m, adrD a, rulSl R] (tru true) := by
  refine fnOk Tryz.func3 rfl (by kernel_rfl) Tryz.ntmps3 _ rfl (by simp) fun C hc => ?_
  have hPr := proper_ok m a hm ha
  have hKy := keyF_ok a R ha hR
  have hAl := alive_ok
  by_cases h1 : prE m a = 0
  rotate_left
  · rw [if_neg h1] at hPr
    repeat' (first | (first | refine Ya ?_ | refine Yb ?_ | refine Yc ?_ | refine Yd ?_ | refine Ye ?_ | refine Yf ?_ | refine Yg ?_ | refine Yh ?_ | refine Yi ?_ | refine Yj ?_ | refine Yk ?_ | refine Yl ?_ | refine Ym ?_ | refine Yn ?_ | refine Yo ?_ | refine Yp (h := ?_) | refine Yq ?_ | refine Yr ?_ | refine Ys ?_ | refine Zr hc (hk := ?_) | refine Zd hc (hk := ?_) | (refine Zc (ht := fun hb => ?_) (hf := fun hb => ?_) <;> (try simp at hb)) | fail) | (first | refine Zw hc (hf := by first | exact hPr | exact hAl) (hk := ?_) | refine Zq hc (hf := by first | exact hPr | exact hAl) (hk := ?_) | refine Zo hc (hk := ?_) | refine Zu hc (hk := ?_) | refine Ze hc (hk := ?_) | refine Zn hc (hk := ?_) | fail))
    all_goals try contradiction
    (refine Zl hc (hr := ?_))
    simp
  rw [if_pos h1] at hPr
  have hme : mapE m = 0 := by
    unfold prE at h1
    split at h1
    · exact h1
    · rename_i h; exact Classical.not_not.1 h
  obtain ⟨hml, hmz⟩ := mapE_zero hme
  obtain ⟨hpl, hpi⟩ := propL_in (normalC a).1 m.ents m.ents.length
  generalize propL (normalC a).1 m.ents m.ents.length = P at hPr hpl hpi
  by_cases h2 : (keyS a R).2 = 0
  rotate_left
  · rw [keyS_err h2] at hKy
    generalize (keyS a R).2 = f at hKy h2
    repeat' (first | (first | refine Ya ?_ | refine Yb ?_ | refine Yc ?_ | refine Yd ?_ | refine Ye ?_ | refine Yf ?_ | refine Yg ?_ | refine Yh ?_ | refine Yi ?_ | refine Yj ?_ | refine Yk ?_ | refine Yl ?_ | refine Ym ?_ | refine Yn ?_ | refine Yo ?_ | refine Yp (h := ?_) | refine Yq ?_ | refine Yr ?_ | refine Ys ?_ | refine Zr hc (hk := ?_) | refine Zd hc (hk := ?_) | (refine Zc (ht := fun hb => ?_) (hf := fun hb => ?_) <;> (try simp at hb)) | fail) | (first | refine Zw hc (hf := by first | exact hPr | exact hKy | exact hAl) (hk := ?_) | refine Zq hc (hf := by first | exact hPr | exact hKy | exact hAl) (hk := ?_) | refine Zo hc (hk := ?_) | refine Zu hc (hk := ?_) | refine Ze hc (hk := ?_) | fail))
    all_goals try contradiction
    (refine Zl hc (hr := ?_))
    simp
  have hsame := fun s h hp => same_host (at1 := a) (s := s) (R := R) h2 h hp
  rw [h2] at hKy
  have hhl := keyS_len a R
  have hHo := hostF_ok (keyS a R).1 (by omega)
  generalize (keyS a R).1 = home at hKy hsame hhl hHo
  unfold hostC at hHo
  by_cases h3 : (ofK home).2 = 0
  rotate_left
  · rw [if_neg h3] at hHo
    repeat' (first | (first | refine Ya ?_ | refine Yb ?_ | refine Yc ?_ | refine Yd ?_ | refine Ye ?_ | refine Yf ?_ | refine Yg ?_ | refine Yh ?_ | refine Yi ?_ | refine Yj ?_ | refine Yk ?_ | refine Yl ?_ | refine Ym ?_ | refine Yn ?_ | refine Yo ?_ | refine Yp (h := ?_) | refine Yq ?_ | refine Yr ?_ | refine Ys ?_ | refine Zr hc (hk := ?_) | refine Zd hc (hk := ?_) | (refine Zc (ht := fun hb => ?_) (hf := fun hb => ?_) <;> (try simp at hb)) | fail) | (first | refine Zw hc (hf := by first | exact hPr | exact hKy | exact hHo | exact hAl) (hk := ?_) | refine Zq hc (hf := by first | exact hPr | exact hKy | exact hHo | exact hAl) (hk := ?_) | refine Zo hc (hk := ?_) | refine Zu hc (hk := ?_) | refine Ze hc (hk := ?_) | fail))
    all_goals try contradiction
    (refine Zl hc (hr := ?_))
    simp
  rw [if_pos h3] at hHo
  obtain ⟨b, M⟩ := m
  simp only at hml hmz hpl hpi hPr hm
  repeat' (first | (first | refine Ya ?_ | refine Yb ?_ | refine Yc ?_ | refine Yd ?_ | refine Ye ?_ | refine Yf ?_ | refine Yg ?_ | refine Yh ?_ | refine Yi ?_ | refine Yj ?_ | refine Yk ?_ | refine Yl ?_ | refine Ym ?_ | refine Yn ?_ | refine Yo ?_ | refine Yp (h := ?_) | refine Yq ?_ | refine Yr ?_ | refine Ys ?_ | refine Zr hc (hk := ?_) | refine Zd hc (hk := ?_) | (refine Zc (ht := fun hb => ?_) (hf := fun hb => ?_) <;> (try simp at hb)) | fail) | (first | refine Zw hc (hf := by first | exact hPr | exact hKy | exact hHo | exact hAl) (hk := ?_) | refine Zq hc (hf := by first | exact hPr | exact hKy | exact hHo | exact hAl) (hk := ?_) | refine Zo hc (hk := ?_) | refine Zu hc (hk := ?_) | refine Ze hc (hk := ?_) | fail))
  all_goals try contradiction
  refine ewp_loop (fun x : LsS => ⟨[(2, .d (rulSl R)), (3, .bp 3 0), (9, .d (str home)), (10, .d (str (hostK home))), (11, .bp 11 0), (12, .os 40000 x.K.length), (60, .d (natSl P)), (61, .d (int P.length)), (62, .d (int x.j))], [(3, .box 24 [.d (tru b), .d (entSl M)]), (11, .box 39 [.d x.x, .d x.y, .d (int 1), .d (int 1)]), ownK x.K]⟩)
    (fun x => x.j ≤ P.length ∧ x.K.length ≤ x.j ∧ Way home ⟨x.I, [], 1, 1⟩ x.K ∧ FormI x.I x.x x.y) (fun x => P.length - x.j) ⟨0, [], [], noL, noL⟩ ⟨Nat.zero_le _, Nat.le_refl _, way_nil home, .inl ⟨rfl, rfl, rfl⟩⟩ (run_keepB [(12, none, 40000, 9, [str []])] [2, 3, 9, 10, 11, 12, 60, 61, 62] [3, 11, 40000] (by simp; exact Gives.mk) (by simp; exact Gives.mk) (by simp; exact Gives.mk)) ?_
  clear hPr hKy hHo
  rintro ⟨j, I, K, x, y⟩ ⟨hj, hKl, hW, hF⟩
  simp only at hj hKl hW hF ⊢
  by_cases hjl : j < P.length
  · have hmem : (P[j]?.getD 0) ∈ P := by rw [List.getElem?_eq_getElem hjl]; exact List.getElem_mem hjl
    obtain ⟨hi, hpb⟩ := hpi _ hmem
    have hRd := read_ok (entAt M (P[j]?.getD 0)).1 (hm _)
    have hz := hmz _ hi
    have hsm := hsame (entAt M (P[j]?.getD 0)).1
    have hrf := rdC_fits (entAt M (P[j]?.getD 0)).1
    generalize readC (entAt M (P[j]?.getD 0)).1 = r at hRd hz hsm hrf
    obtain ⟨r, rn, rf⟩ := r
    simp only [readD] at hRd hz hsm hrf
    subst hz
    have hK2 := keyF_ok r R hrf hR
    have hkl := keyS_len r R
    have hsm2 := fun h => hsm h hpb
    clear hsm
    generalize keyS r R = kk at hK2 hkl hsm2
    obtain ⟨key, kf⟩ := kk
    simp only at hK2 hkl hsm2
    by_cases hkf : kf = 0
    rotate_left
    · repeat' (first | (first | refine Ya ?_ | refine Yb ?_ | refine Yc ?_ | refine Yd ?_ | refine Ye ?_ | refine Yf ?_ | refine Yg ?_ | refine Yh ?_ | refine Yi ?_ | refine Yj ?_ | refine Yk ?_ | refine Yl ?_ | refine Ym ?_ | refine Yn ?_ | refine Yo ?_ | refine Yp (h := ?_) | refine Yq ?_ | refine Yr ?_ | refine Ys ?_ | refine Zr hc (hk := ?_) | refine Zd hc (hk := ?_) | (refine Zc (ht := fun hb => ?_) (hf := fun hb => ?_) <;> (try simp at hb)) | fail) | (first | refine Zw hc (hf := by first | exact hRd | exact hK2) (hk := ?_) | refine Zq hc (hf := by first | exact hRd | exact hK2) (hk := ?_) | refine Zo hc (hk := ?_) | refine Zu hc (hk := ?_) | refine Ze hc (hk := ?_) | fail))
      all_goals try contradiction
      all_goals try (exfalso; omega)
      exact ⟨⟨j + 1, I, K, x, y⟩, ⟨by simp only; omega, by simp only; omega, hW, hF⟩, by simp only; omega, run_back [2, 3, 9, 10, 11, 12, 60, 61, 62] [3, 11, 40000] (by simp; exact Gives.mk) (by simp; exact Gives.mk) (by simp)⟩
    subst hkf
    have hsk := hsm2 rfl
    have hA := addAny_ok I x y key hF hW.ok (by omega)
    unfold addD at hA
    by_cases hE : addE ⟨I, [], 1, 1⟩ (key, 0, 0) = 0
    rotate_left
    · rw [if_pos hE] at hA
      generalize addE ⟨I, [], 1, 1⟩ (key, 0, 0) = e at hA hE
      repeat' (first | (first | refine Ya ?_ | refine Yb ?_ | refine Yc ?_ | refine Yd ?_ | refine Ye ?_ | refine Yf ?_ | refine Yg ?_ | refine Yh ?_ | refine Yi ?_ | refine Yj ?_ | refine Yk ?_ | refine Yl ?_ | refine Ym ?_ | refine Yn ?_ | refine Yo ?_ | refine Yp (h := ?_) | refine Yq ?_ | refine Yr ?_ | refine Ys ?_ | refine Zr hc (hk := ?_) | refine Zd hc (hk := ?_) | (refine Zc (ht := fun hb => ?_) (hf := fun hb => ?_) <;> (try simp at hb)) | fail) | (first | refine Zw hc (hf := by first | exact hRd | exact hK2 | exact hA) (hk := ?_) | refine Zq hc (hf := by first | exact hRd | exact hK2 | exact hA) (hk := ?_) | refine Zo hc (hk := ?_) | refine Zu hc (hk := ?_) | refine Ze hc (hk := ?_) | fail))
      all_goals try contradiction
      all_goals try (exfalso; omega)
      exact ⟨⟨j + 1, I, K, x, y⟩, ⟨by simp only; omega, by simp only; omega, hW, hF⟩, by simp only; omega, run_back [2, 3, 9, 10, 11, 12, 60, 61, 62] [3, 11, 40000] (by simp; exact Gives.mk) (by simp; exact Gives.mk) (by simp)⟩
    rw [if_neg (fun e => e hE)] at hA
    have hW2 := way_add hW hE hsk (by omega)
    have hkk := (hW2.key key (by simp)).1
    have hIn := inHost_ok home key h3 hkk hsk
    simp only at hA hW2
    generalize addI I (key, 0, 0) = I2 at hA hW2
    repeat' (first | (first | refine Ya ?_ | refine Yb ?_ | refine Yc ?_ | refine Yd ?_ | refine Ye ?_ | refine Yf ?_ | refine Yg ?_ | refine Yh ?_ | refine Yi ?_ | refine Yj ?_ | refine Yk ?_ | refine Yl ?_ | refine Ym ?_ | refine Yn ?_ | refine Yo ?_ | refine Yp (h := ?_) | refine Yq ?_ | refine Yr ?_ | refine Ys ?_ | refine Zr hc (hk := ?_) | refine Zd hc (hk := ?_) | (refine Zc (ht := fun hb => ?_) (hf := fun hb => ?_) <;> (try simp at hb)) | fail) | (first | refine Zw hc (hf := by first | exact hRd | exact hK2 | exact hA) (hk := ?_) | refine Zq hc (hf := by first | exact hRd | exact hK2 | exact hA) (hk := ?_) | refine Zo hc (hk := ?_) | refine Zu hc (hk := ?_) | refine Ze hc (hk := ?_) | fail))
    all_goals try contradiction
    all_goals try (exfalso; omega)
    refine ewp_le (run_keep [2, 3, 9, 10, 11, 12, 18, 19, 60, 61, 62] [3, 11, 19, 40000] (by simp; exact Gives.mk) (by simp; exact Gives.mk)) ?_
    (apply run_drawAny 7 hc (by kernel_rfl) rfl; (focus (refine run_anyM 1 hc rfl (by kernel_rfl) rfl (by first | exact .inl rfl | exact .inr rfl) (by simp; exact Gives.mk) (by simp) (by simp; exact Gives.mk) ?_; refine run_anyM 2 hc rfl (by kernel_rfl) rfl (by first | exact .inl rfl | exact .inr rfl) (by simp; exact Gives.mk) (by simp) (by simp; exact Gives.mk) ?_; refine anyW_all [0, 3] (by kernel_rfl) rfl ?_; refine ⟨?_, ?_⟩; (focus (refine run_stepW hc rfl (by simp; exact Ends.go) (by first | exact True.intro | omega | (simp; done) | (simp; omega) | (simp at *; omega)) ?q220; refine anyW_all [3] (by kernel_rfl) rfl ?nq220; (focus (refine run_stepW hc rfl (by simp; exact Ends.go) (by first | exact True.intro | omega | (simp; done) | (simp; omega) | (simp at *; omega)) ?q221; refine anyW_all [4] (by kernel_rfl) rfl ?nq221; (focus (refine run_stepW hc rfl (by simp; exact Ends.go) (by first | exact True.intro | omega | (simp; done) | (simp; omega) | (simp at *; omega)) ?q222; refine anyW_all [5] (by kernel_rfl) rfl ?nq222; (focus (refine run_stepW hc rfl (by simp; exact Ends.go) (by first | exact True.intro | omega | (simp; done) | (simp; omega) | (simp at *; omega)) ?q223; refine run_anyM 6 hc rfl (by kernel_rfl) rfl (by first | exact .inl rfl | exact .inr rfl) (by simp; exact Gives.mk) (by simp) (by simp; exact Gives.mk) ?nq223; refine anyW_done (by kernel_rfl) ?_; exact run_keep [2, 3, 9, 10, 11, 12, 18, 60, 61, 62] [3, 11, 40000] (by simp; try exact Gives.mk) (by simp; try exact Gives.mk))))))))); (focus (refine run_stepW hc rfl (by simp; exact Ends.go) (by first | exact True.intro | omega | (simp; done) | (simp; omega) | (simp at *; omega)) ?q224; refine anyW_all [0, 4] (by kernel_rfl) rfl ?nq224; refine ⟨?_, ?_⟩; (focus (refine run_stepW hc rfl (by simp; exact Ends.go) (by first | exact True.intro | omega | (simp; done) | (simp; omega) | (simp at *; omega)) ?_; exact anyW_le (run_back [2, 3, 9, 10, 11, 12, 18, 19, 60, 61, 62, 97, 98, 96, 99] [3, 11, 19, 40000, 99] (by simp; exact Gives.mk) (by simp; exact Gives.mk) (by simp)) ?q221)); (focus (refine run_stepW hc rfl (by simp; exact Ends.go) (by first | exact True.intro | omega | (simp; done) | (simp; omega) | (simp at *; omega)) ?q225; refine run_anyR 0 [0, 5, 6] hc rfl (by kernel_rfl) rfl (by simp; exact Gives.mk) (by first | exact True.intro | omega | (simp; done) | (simp; omega) | (simp at *; omega)) (by simp) (by simp; exact Gives.mk) ?nq225; refine anyW_all [5] (by kernel_rfl) rfl ?_; (focus (refine run_stepW hc rfl (by simp; exact Ends.go) (by first | exact True.intro | omega | (simp; done) | (simp; omega) | (simp at *; omega)) ?_; exact anyW_le (run_back [2, 3, 9, 10, 11, 12, 18, 19, 60, 61, 62, 97, 98, 96, 99, 100] [3, 11, 19, 40000, 99] (by simp; exact Gives.mk) (by simp; exact Gives.mk) (by simp)) ?q223)))))))))
    repeat' (first | (first | refine Ya ?_ | refine Yb ?_ | refine Yc ?_ | refine Yd ?_ | refine Ye ?_ | refine Yf ?_ | refine Yg ?_ | refine Yh ?_ | refine Yi ?_ | refine Yj ?_ | refine Yk ?_ | refine Yl ?_ | refine Ym ?_ | refine Yn ?_ | refine Yo ?_ | refine Yp (h := ?_) | refine Yq ?_ | refine Yr ?_ | refine Ys ?_ | refine Zr hc (hk := ?_) | refine Zd hc (hk := ?_) | (refine Zc (ht := fun hb => ?_) (hf := fun hb => ?_) <;> (try simp at hb)) | fail) | (first | refine Zw hc (hf := by exact hIn) (hk := ?_) | refine Zq hc (hf := by exact hIn) (hk := ?_) | refine Zo hc (hk := ?_) | refine Zu hc (hk := ?_) | refine Ze hc (hk := ?_) | fail))
    all_goals try contradiction
    all_goals try (exfalso; omega)
    exact ⟨⟨j + 1, I2, K ++ [key], wntSl I2, hstSl []⟩, ⟨by simp only; omega, by simp; omega, hW2, .inr ⟨rfl, rfl⟩⟩, by simp only; omega, run_back [2, 3, 9, 10, 11, 12, 60, 61, 62] [3, 11, 40000] (by simp; exact Gives.mk) (by simp; exact Gives.mk) (by simp)⟩
  · obtain rfl : j = P.length := by omega
    by_cases hK0 : K = []
    · subst hK0
      have hI0 : I = [] := by
        cases I with
        | nil => rfl
        | cons w I => exact absurd ((hW.has w.1).1 ⟨w, by simp, rfl⟩) (by simp)
      subst hI0
      have hS := fun f => sort0_ok f
      have hC := fun f => compact0_ok f
      (first | refine run_sealW 40000 hc (by simp; exact Gives.mk) (by simp) ?_ | refine run_seal 40000 hc (by simp; exact Gives.mk) (by simp) ?_)
      rcases hF with ⟨-, rfl, rfl⟩ | ⟨rfl, rfl⟩
      all_goals repeat' (first | (first | refine Ya ?_ | refine Yb ?_ | refine Yc ?_ | refine Yd ?_ | refine Ye ?_ | refine Yf ?_ | refine Yg ?_ | refine Yh ?_ | refine Yi ?_ | refine Yj ?_ | refine Yk ?_ | refine Yl ?_ | refine Ym ?_ | refine Yn ?_ | refine Yo ?_ | refine Yp (h := ?_) | refine Yq ?_ | refine Yr ?_ | refine Ys ?_ | refine Zr hc (hk := ?_) | refine Zd hc (hk := ?_) | (refine Zc (ht := fun hb => ?_) (hf := fun hb => ?_) <;> (try simp at hb)) | fail) | (first | refine Zw hc (hf := by exact hS _) (hk := ?_) | refine Zq hc (hf := by exact hS _) (hk := ?_) | refine Zo hc (hk := ?_) | refine Zu hc (hk := ?_) | refine Ze hc (hk := ?_) | fail))
      all_goals try contradiction
      all_goals try (exfalso; omega)
      all_goals refine ewp_le (run_keep [10, 11, 12] [11] (by simp; exact Gives.mk) (by simp; exact Gives.mk)) ?_
      all_goals (apply Pd 11 hc; (focus (refine Pr 0 hc (hk := ?_); refine Pr 1 hc (hk := ?_); refine Pr 2 hc (hk := ?_); refine Pr 3 hc (hk := ?_); refine Pc 4 hc (hf := by first | exact hC _) (hk := ?_); refine Pr 5 hc (hk := ?_); refine Pr 6 hc (hk := ?_); refine Pr 7 hc (hk := ?_); refine Pc 8 hc (hf := by first | exact hAl) (hk := ?_); refine Pr 9 hc (hk := ?_); refine Pr 10 hc (hk := ?_); refine Pz (hk := ?_); exact run_keep [10, 11, 128] [11] (by simp; try exact Gives.mk) (by simp; try exact Gives.mk))))
      all_goals repeat' (first | (first | refine Ya ?_ | refine Yb ?_ | refine Yc ?_ | refine Yd ?_ | refine Ye ?_ | refine Yf ?_ | refine Yg ?_ | refine Yh ?_ | refine Yi ?_ | refine Yj ?_ | refine Yk ?_ | refine Yl ?_ | refine Ym ?_ | refine Yn ?_ | refine Yo ?_ | refine Yp (h := ?_) | refine Yq ?_ | refine Yr ?_ | refine Ys ?_ | refine Zr hc (hk := ?_) | refine Zd hc (hk := ?_) | (refine Zc (ht := fun hb => ?_) (hf := fun hb => ?_) <;> (try simp at hb)) | fail) | (first | refine Zo hc (hk := ?_) | refine Zu hc (hk := ?_) | refine Ze hc (hk := ?_) | fail))
      all_goals try contradiction
      all_goals try (exfalso; omega)
      all_goals refine ewp_loop (fun _ : Unit => ⟨[(131, .d (int 0)), (132, .d (int 0))], []⟩) (fun _ => True) (fun _ => 0) () trivial (run_keep [131, 132] [] (by simp; exact Gives.mk) (by simp; exact Gives.mk)) ?_
      all_goals rintro ⟨⟩ _
      all_goals repeat' (first | (first | refine Ya ?_ | refine Yb ?_ | refine Yc ?_ | refine Yd ?_ | refine Ye ?_ | refine Yf ?_ | refine Yg ?_ | refine Yh ?_ | refine Yi ?_ | refine Yj ?_ | refine Yk ?_ | refine Yl ?_ | refine Ym ?_ | refine Yn ?_ | refine Yo ?_ | refine Yp (h := ?_) | refine Yq ?_ | refine Yr ?_ | refine Ys ?_ | refine Zr hc (hk := ?_) | refine Zd hc (hk := ?_) | (refine Zc (ht := fun hb => ?_) (hf := fun hb => ?_) <;> (try simp at hb)) | fail) | (first | refine Zo hc (hk := ?_) | refine Zu hc (hk := ?_) | refine Ze hc (hk := ?_) | refine Zn hc (hk := ?_) | fail))
      all_goals try contradiction
      all_goals (refine Zl hc (hr := ?_))
      all_goals simp
    · obtain ⟨rfl, rfl⟩ : x = wntSl I ∧ y = hstSl [] := by
        rcases hF with ⟨h, -, -⟩ | h
        · obtain ⟨k, hk⟩ := List.exists_mem_of_ne_nil K hK0
          obtain ⟨w, hw, _⟩ := (hW.has k).2 hk
          rw [h] at hw
          cases hw
        · exact h
      have hSo := sort_ok K hK0 (by omega)
      have hlen := items_len hW.good.keys hW.has
      have hIl := hW.good.items
      have hit := fun i hi => way_item hW i hi
      simp only at hlen hIl hit
      have hsl : (K.mergeSort fun x y => decide (x ≤ y)).length = K.length := List.length_mergeSort ..
      have hsn : (K.mergeSort fun x y => decide (x ≤ y)) ≠ [] := fun e => hK0 (List.length_eq_zero_iff.1 (by rw [← hsl, e]; rfl))
      have hCo := compact_ok _ hsn (by omega)
      have hcl := compact_le (K.mergeSort fun x y => decide (x ≤ y))
      generalize (K.mergeSort fun x y => decide (x ≤ y)) = S at hSo hlen hsl hsn hCo hcl
      rw [hsl] at hCo
      generalize Lib.compact S = Q at hlen hCo hcl
      repeat' (first | (first | refine Ya ?_ | refine Yb ?_ | refine Yc ?_ | refine Yd ?_ | refine Ye ?_ | refine Yf ?_ | refine Yg ?_ | refine Yh ?_ | refine Yi ?_ | refine Yj ?_ | refine Yk ?_ | refine Yl ?_ | refine Ym ?_ | refine Yn ?_ | refine Yo ?_ | refine Yp (h := ?_) | refine Yq ?_ | refine Yr ?_ | refine Ys ?_ | refine Zr hc (hk := ?_) | refine Zd hc (hk := ?_) | (refine Zc (ht := fun hb => ?_) (hf := fun hb => ?_) <;> (try simp at hb)) | fail) | (first | refine Zo hc (hk := ?_) | refine Zu hc (hk := ?_) | refine Ze hc (hk := ?_) | fail) | (first | refine run_callM ([(100001, 40000)]) (hSo) hc (by simp; exact Gives.mk) (by simp; exact Gives.mk) (by simp; exact Gives.mk) (by simp; exact Gives.mk) (by simp; exact Gives.mk) rfl (by simp; exact Gives.mk) (by simp; exact Gives.mk) rfl (by simp) (by simp) (by simp; exact Gives.mk) (by simp; exact Gives.mk) ?_ | fail))
      all_goals try contradiction
      all_goals try (exfalso; omega)
      refine ewp_le (run_keep [10, 11, 12] [11, 40000] (by simp; exact Gives.mk) (by simp; exact Gives.mk)) ?_
      (apply run_drawAny 11 hc (by kernel_rfl) rfl; (focus (refine run_anyP 0 hc rfl (by kernel_rfl) rfl (by simp; exact Gives.mk) (by first | exact True.intro | omega | (simp; done) | (simp; omega) | (simp at *; omega)) (by simp) (by simp) (by simp; exact Gives.mk) ?_; refine run_anyM 3 hc rfl (by kernel_rfl) rfl (by first | exact .inl rfl | exact .inr rfl) (by simp; exact Gives.mk) (by simp) (by simp; exact Gives.mk) ?_; refine anyW_all [1, 4] (by kernel_rfl) rfl ?_; refine ⟨?_, ?_⟩; (focus (refine run_stepW hc rfl (by simp; exact Ends.go) (by first | exact True.intro | omega | (simp; done) | (simp; omega) | (simp at *; omega)) ?qb280; refine anyW_all [2, 4] (by kernel_rfl) rfl ?nqb280; refine ⟨?_, ?_⟩; (focus (refine run_stepW hc rfl (by simp; exact Ends.go) (by first | exact True.intro | omega | (simp; done) | (simp; omega) | (simp at *; omega)) ?qb281; refine anyW_all [4] (by kernel_rfl) rfl ?nqb281; (focus (refine run_stepM ([(100001, 40000)]) (hCo) hc rfl (by simp; exact Gives.mk) (by simp; exact Gives.mk) (by simp; exact Gives.mk) (by simp; exact Gives.mk) (by simp; exact Gives.mk) rfl (by simp; exact Gives.mk) (by simp; exact Gives.mk) rfl (by simp) (by simp) (by simp; exact Gives.mk) (by simp; exact Gives.mk) ?qb282; refine run_anyG 5 hc rfl (by kernel_rfl) (by simp; exact Gives.mk) (by simp; exact Gives.mk) (fun _ => (by first | exact True.intro | omega | (simp; done) | (simp; omega) | (simp at *; omega))) (by simp) (by simp) (by simp; exact Gives.mk) ?nqb282; refine run_anyP 6 hc rfl (by kernel_rfl) rfl (by simp; exact Gives.mk) (by first | exact True.intro | omega | (simp; done) | (simp; omega) | (simp at *; omega)) (by simp) (by simp) (by simp; exact Gives.mk) ?_; refine run_anyM 7 hc rfl (by kernel_rfl) rfl (by first | exact .inl rfl | exact .inr rfl) (by simp; exact Gives.mk) (by simp) (by simp; exact Gives.mk) ?_; refine anyW_all [8] (by kernel_rfl) rfl ?_; (focus (refine run_stepC hc rfl rfl (by simp; exact Gives.mk) (by simp; exact Gives.mk) (by simp; exact Gives.mk) (by simp; exact Gives.mk) (by simp; exact Gives.mk) (fun _ => hAl) (by simp) (by simp) ?qb283; refine run_anyG 9 hc rfl (by kernel_rfl) (by simp; exact Gives.mk) (by simp; exact Gives.mk) (fun _ => (by first | exact True.intro | omega | (simp; done) | (simp; omega) | (simp at *; omega))) (by simp) (by simp) (by simp; exact Gives.mk) ?nqb283; refine run_anyP 10 hc rfl (by kernel_rfl) rfl (by simp; exact Gives.mk) (by first | exact True.intro | omega | (simp; done) | (simp; omega) | (simp at *; omega)) (by simp) (by simp) (by simp; exact Gives.mk) ?_; refine anyW_done (by kernel_rfl) ?_; exact run_keep [10, 11, 128] [11] (by simp; try exact Gives.mk) (by simp; try exact Gives.mk))))))); (focus (refine run_stepM ([(100001, 40000)]) (hCo) hc rfl (by simp; exact Gives.mk) (by simp; exact Gives.mk) (by simp; exact Gives.mk) (by simp; exact Gives.mk) (by simp; exact Gives.mk) rfl (by simp; exact Gives.mk) (by simp; exact Gives.mk) rfl (by simp) (by simp) (by simp; exact Gives.mk) (by simp; exact Gives.mk) ?qb284; refine run_anyG 5 hc rfl (by kernel_rfl) (by simp; exact Gives.mk) (by simp; exact Gives.mk) (fun _ => (by first | exact True.intro | omega | (simp; done) | (simp; omega) | (simp at *; omega))) (by simp) (by simp) (by simp; exact Gives.mk) ?nqb284; refine anyW_all [2] (by kernel_rfl) rfl ?_; (focus (refine run_stepW hc rfl (by simp; exact Ends.go) (by first | exact True.intro | omega | (simp; done) | (simp; omega) | (simp at *; omega)) ?qb285; refine run_anyP 6 hc rfl (by kernel_rfl) rfl (by simp; exact Gives.mk) (by first | exact True.intro | omega | (simp; done) | (simp; omega) | (simp at *; omega)) (by simp) (by simp) (by simp; exact Gives.mk) ?nqb285; refine run_anyM 7 hc rfl (by kernel_rfl) rfl (by first | exact .inl rfl | exact .inr rfl) (by simp; exact Gives.mk) (by simp) (by simp; exact Gives.mk) ?_; refine anyW_all [8] (by kernel_rfl) rfl ?_; (focus (refine run_stepC hc rfl rfl (by simp; exact Gives.mk) (by simp; exact Gives.mk) (by simp; exact Gives.mk) (by simp; exact Gives.mk) (by simp; exact Gives.mk) (fun _ => hAl) (by simp) (by simp) ?_; exact anyW_le (run_back [10, 11, 12, 118, 121, 119, 120, 122, 123, 124, 125, 126] [40000, 11] (by simp; exact Gives.mk) (by simp; exact Gives.mk) (by simp)) ?qb283)))))))); (focus (refine run_stepM ([(100001, 40000)]) (hCo) hc rfl (by simp; exact Gives.mk) (by simp; exact Gives.mk) (by simp; exact Gives.mk) (by simp; exact Gives.mk) (by simp; exact Gives.mk) rfl (by simp; exact Gives.mk) (by simp; exact Gives.mk) rfl (by simp) (by simp) (by simp; exact Gives.mk) (by simp; exact Gives.mk) ?qb286; refine run_anyG 5 hc rfl (by kernel_rfl) (by simp; exact Gives.mk) (by simp; exact Gives.mk) (fun _ => (by first | exact True.intro | omega | (simp; done) | (simp; omega) | (simp at *; omega))) (by simp) (by simp) (by simp; exact Gives.mk) ?nqb286; refine run_anyR 1 [1, 2, 6, 7, 8, 9, 10] hc rfl (by kernel_rfl) rfl (by simp; exact Gives.mk) (by first | exact True.intro | omega | (simp; done) | (simp; omega) | (simp at *; omega)) (by simp) (by simp; exact Gives.mk) ?_; refine anyW_all [2] (by kernel_rfl) rfl ?_; (focus (refine run_stepW hc rfl (by simp; exact Ends.go) (by first | exact True.intro | omega | (simp; done) | (simp; omega) | (simp at *; omega)) ?_; exact anyW_le (run_back [10, 11, 12, 118, 121, 119, 122, 123, 120] [40000, 11] (by simp; exact Gives.mk) (by simp; exact Gives.mk) (by simp)) ?qb285)))))))
      repeat' (first | (first | refine Ya ?_ | refine Yb ?_ | refine Yc ?_ | refine Yd ?_ | refine Ye ?_ | refine Yf ?_ | refine Yg ?_ | refine Yh ?_ | refine Yi ?_ | refine Yj ?_ | refine Yk ?_ | refine Yl ?_ | refine Ym ?_ | refine Yn ?_ | refine Yo ?_ | refine Yp (h := ?_) | refine Yq ?_ | refine Yr ?_ | refine Ys ?_ | refine Zr hc (hk := ?_) | refine Zd hc (hk := ?_) | (refine Zc (ht := fun hb => ?_) (hf := fun hb => ?_) <;> (try simp at hb)) | fail) | (first | refine Zo hc (hk := ?_) | refine Zu hc (hk := ?_) | refine Ze hc (hk := ?_) | fail))
      all_goals try contradiction
      all_goals try (exfalso; omega)
      refine ewp_loop (fun i : Nat => ⟨[(10, .d (str (hostK home))), (130, .d (wntSl I)), (131, .d (int I.length)), (132, .d (int i))], []⟩) (fun i => i ≤ I.length) (fun i => I.length - i) 0 (by simp) (run_keep [10, 130, 131, 132] [] (by simp; exact Gives.mk) (by simp; exact Gives.mk)) ?_
      intro i hi
      by_cases hil : i < I.length
      · obtain ⟨k1, k2⟩ := hit i hil
        have hN := hostNm_ok _ k1
        rw [k2] at hN
        repeat' (first | (first | refine Ya ?_ | refine Yb ?_ | refine Yc ?_ | refine Yd ?_ | refine Ye ?_ | refine Yf ?_ | refine Yg ?_ | refine Yh ?_ | refine Yi ?_ | refine Yj ?_ | refine Yk ?_ | refine Yl ?_ | refine Ym ?_ | refine Yn ?_ | refine Yo ?_ | refine Yp (h := ?_) | refine Yq ?_ | refine Yr ?_ | refine Ys ?_ | refine Zr hc (hk := ?_) | refine Zd hc (hk := ?_) | (refine Zc (ht := fun hb => ?_) (hf := fun hb => ?_) <;> (try simp at hb)) | fail) | (first | refine Zw hc (hf := by exact hN) (hk := ?_) | refine Zq hc (hf := by exact hN) (hk := ?_) | refine Zo hc (hk := ?_) | refine Zu hc (hk := ?_) | refine Ze hc (hk := ?_) | fail))
        all_goals try contradiction
        all_goals try (exfalso; omega)
        all_goals try (exfalso; simp_all; done)
        exact ⟨i + 1, by omega, by omega, run_back [10, 130, 131, 132] [] (by simp; exact Gives.mk) (by simp; exact Gives.mk) (by simp)⟩
      · repeat' (first | (first | refine Ya ?_ | refine Yb ?_ | refine Yc ?_ | refine Yd ?_ | refine Ye ?_ | refine Yf ?_ | refine Yg ?_ | refine Yh ?_ | refine Yi ?_ | refine Yj ?_ | refine Yk ?_ | refine Yl ?_ | refine Ym ?_ | refine Yn ?_ | refine Yo ?_ | refine Yp (h := ?_) | refine Yq ?_ | refine Yr ?_ | refine Ys ?_ | refine Zr hc (hk := ?_) | refine Zd hc (hk := ?_) | (refine Zc (ht := fun hb => ?_) (hf := fun hb => ?_) <;> (try simp at hb)) | fail) | (first | refine Zo hc (hk := ?_) | refine Zu hc (hk := ?_) | refine Ze hc (hk := ?_) | fail))
        all_goals try contradiction
        all_goals try (exfalso; omega)
        (refine Zl hc (hr := ?_))
        simp
end Go.Proofs.YtpmfmjgnhdfakaaGreatDoor
