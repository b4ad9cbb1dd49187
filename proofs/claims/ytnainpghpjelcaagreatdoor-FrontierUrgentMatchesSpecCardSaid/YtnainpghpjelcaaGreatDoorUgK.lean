/-
  slices.Insert of one element at []int: its four roads, and the contract.
-/
import Derived.Test.YtnainpghpjelcaaGreatDoorProg
import Derived.Test.YtnainpghpjelcaaGreatDoorIns0
import Derived.Test.YtnainpghpjelcaaGreatDoorLwCard
import Derived.Lib.Walk
import Derived.Shelf.RegionOpenPlain
import Derived.StillTailTactics
import Derived.Deep.RegionLaw
import Derived.Test.YtnainpghpjelcaaGreatDoorUgJ
import Derived.Test.YtnainpghpjelcaaGreatDoorFnV
import Derived.Test.YtnainpghpjelcaaGreatDoorFnT
import Derived.Test.YtnainpghpjelcaaGreatDoorFrAwake
set_option linter.unusedSimpArgs false
set_option linter.unusedVariables false
namespace Go.Proofs.YtnainpghpjelcaaGreatDoor
open Go.Lw Go.RowKit Go.Shelf
set_option maxHeartbeats 4000000
set_option maxRecDepth 100000

theorem insI_info : ∃ i0 z, Tryz.prog.info? 3 = some i0 ∧ i0.zero = some z ∧ i0.size = 1 ∧ i0.bytes = 8 ∧ z.cells.size = 1 := by
  have h : (Tryz.prog.info? 3).map (fun i => (i.size, i.bytes, i.zero.map fun z => z.cells.size)) = some (1, 8, some 1) := by kernel_rfl
  obtain ⟨i0, h1, h2⟩ := Option.map_eq_some_iff.1 h
  simp only [Prod.mk.injEq] at h2
  obtain ⟨h3, h4, h5⟩ := h2
  obtain ⟨z, h6, h7⟩ := Option.map_eq_some_iff.1 h5
  exact ⟨i0, z, h1, h6, h3, h4, h7⟩
theorem insI_shift (b n c i vb vc : Nat) (cs vs : List Value) (w : World) (hi : i < n) (hroom : n + 1 ≤ c) (hc63 : c ≤ 9223372036854775807) (hvb : vb ≠ b)
    (hcl : cs.length = n) (hvl : vs.length = 1)
    (hcs : ∀ j v, cs[j]? = some v → w.cell? ⟨b, j, none⟩ = some v) (hsp : ∀ j, j < (n + 1) → (w.cell? ⟨b, j, none⟩).isSome = true) (hfz : ∀ j, j < (n + 1) → w.frozen? ⟨b, j, none⟩ = false)
    (hvs : ∀ j v, vs[j]? = some v → w.cell? ⟨vb, j, none⟩ = some v) (h1c : ∀ v ∈ cs, v.oneCell' = true) (h1v : ∀ v ∈ vs, v.oneCell' = true)
    (tA tB : TypeId) (kA kB : Nat) (hsa : w.shape? vb = some (tA, kA)) (hsb : w.shape? b = some (tB, kB)) (hkB : kB ≠ 0) (hfa : w.frozen? ⟨vb, 0, none⟩ = false) (hfe : w.frozen? ⟨vb, kA, none⟩ = false) :
    Calls Tryz.prog 97 #[.slice (some ⟨b, 0, none⟩) n c, .int .i64 i, .slice (some ⟨vb, 0, none⟩) 1 vc] w fun e w' =>
      e = .returned (.slice (some ⟨b, 0, none⟩) (n + 1) c) ∧ w' = (w.drew.setCells b ((i + 1)) (cs.drop (i))).setCells b (i) vs := by
  have mixed : Tryz.prog.follows .mixedOrders = true := by kernel_rfl
  have hz2 : ¬ ((i : Int) = (n : Int)) := by omega
  have hsz : (Tryz.prog.info? 3).map (·.size) = some 1 := by kernel_rfl
  have hzs : ∀ w, (Go.sizeOf 3).run Tryz.prog w = .ok 1 w := fun w => Lw.run_sizeOf (show eSz _ _ = some 1 from hsz) w
  have hov : ∀ o lb cb, (callFunc 153 #[.slice (some ⟨vb, 0, none⟩) 1 vc, .slice (some ⟨b, o, none⟩) lb cb]).run Tryz.prog w = .ok (.value (.bool false)) w := fun o lb cb => by
    rw [run_callFunc_extern Tryz.func153 (by kernel_rfl) (by kernel_rfl) (by kernel_rfl) (e := Extern.SlicesOverlaps.overlaps #[48, 48] #[4]) (by kernel_rfl),
      Lib.run_overlaps_apart w 48 4 3 Tryz.underlying48 1 hzs ⟨vb, 0, none⟩ ⟨b, o, none⟩ 1 vc lb cb hvb tA tB kA kB hsa hsb hkB hfa hfe]
    rfl
  have hdl : (cs.drop (i)).length = (n - i) := by first | (rw [List.length_drop, hcl]; omega) | (rw [List.length_drop, hcl])
  have hw1 : IntKind.i64.wrap ((i : Int) + 1) = (i : Int) + 1 := by rw [IntKind.wrap_i64]; omega
  have hb1 : (0 : Int) ≤ (i : Int) + 1 := by omega
  have hin : i ≤ n := by omega
  have htn : ((i : Int) + 1).toNat = i + 1 := by omega
  have hb2 : ¬ (c = i + 1) := by omega
  have hb3 : (i : Int) ≤ (n : Int) + 1 := by omega
  have hb4 : ¬ (c = i) := by omega
  have hcp1 : ∀ ty dc sc, (Builtin.copy_ #[48, 48] ty #[.slice (some ⟨b, (i + 1), none⟩) (n - i) dc, .slice (some ⟨b, i, none⟩) (n + 1 - i) sc]).run Tryz.prog w.drew = .ok (goInt ((n - i : Nat) : Int)) (w.drew.setCells b ((i + 1)) (cs.drop (i))) := fun ty dc sc => by
    have hm : Nat.min (n + 1 - i) (n - i) = n - i := by simp only [Nat.min_def]; split <;> omega
    have := run_copy_K (P := Tryz.prog) w.drew 48 48 ty 3 1 b ((i + 1)) (n - i) dc ⟨b, i, none⟩ (n + 1 - i) sc (cs.drop (i)) Tryz.underlying48 hsz (by rw [hm, hdl]; try omega)
      (fun j v hj => by rw [addr_add]; exact hcs (i + j) v (by rwa [List.getElem?_drop] at hj))
      (fun j hj => by exact hsp _ (by omega)) (fun j hj => by exact hfz _ (by omega)) (fun v hv => h1c v (List.mem_of_mem_drop hv))
    rw [hm] at this
    exact this
  obtain ⟨W1, hW1⟩ : ∃ W1, W1 = w.drew.setCells b ((i + 1)) (cs.drop (i)) := ⟨_, rfl⟩
  have hsp1 : ∀ k, k < (n + 1) → (W1.cell? ⟨b, k, none⟩).isSome = true := fun k hk => by
    rw [hW1]
    exact isSome_setCellsK b (cs.drop (i)) ((i + 1)) w.drew (fun j hj => hsp _ (by omega)) k (hsp k hk)
  have hcp2 : ∀ (W : World), (∀ x, W.cell? x = W1.cell? x) → (∀ x, W.frozen? x = W1.frozen? x) → ∀ ty dc, (Builtin.copy_ #[48, 48] ty #[.slice (some ⟨b, i, none⟩) (n + 1 - i) dc, .slice (some ⟨vb, 0, none⟩) 1 vc]).run Tryz.prog W = .ok (goInt 1) (W.setCells b (i) vs) := fun W hWc hWf ty dc => by
    have hm : Nat.min 1 (n + 1 - i) = 1 := by simp only [Nat.min_def]; split <;> omega
    have := run_copy_K (P := Tryz.prog) W 48 48 ty 3 1 b (i) (n + 1 - i) dc ⟨vb, 0, none⟩ 1 vc vs Tryz.underlying48 hsz (by rw [hm, hvl]; try omega)
      (fun j v hj => by
        rw [addr_add, Nat.zero_add, hWc, hW1, World.cell?_setCells_out b _ _ _ _ (fun h _ => absurd h hvb)]
        exact hvs j v hj)
      (fun j hj => by rw [hWc]; exact hsp1 _ (by omega)) (fun j hj => by rw [hWf, hW1, World.frozen?_setCells]; exact hfz _ (by omega)) h1v
    rw [hm] at this
    exact this
  rw [← hW1] at hcp1
  go_enter Tryz.func97, Tryz.ntmps97
  go_wp2_with (simp only [hov])
  go_region_law_o (refine step_copyK rfl _ _ 48 48 rfl _ _ (by simp [Act.eval, Act.put]) (by simp [Act.eval, Act.put]) (hcp1 _ _ _) ?_)
  go_wp2_with (at_builtin; refine wpList_copyK _ rfl _ _ 48 48 rfl _ _ rfl rfl (hcp2 _ (fun _ => rfl) (fun _ => rfl) _ _) ?_)
  go_ret
  first | exact ⟨rfl, rfl⟩ | exact ⟨rfl, by rw [hW1]⟩
theorem insI_end_room (b n c vb vc : Nat) (vs : List Value) (w : World) (hroom : n + 1 ≤ c) (hc63 : c ≤ 9223372036854775807)
    (hvl : vs.length = 1) (hsp : ∀ j, j < 1 → (w.cell? ⟨b, n + j, none⟩).isSome = true) (hfz : ∀ j, j < 1 → w.frozen? ⟨b, n + j, none⟩ = false)
    (hvs : ∀ j v, vs[j]? = some v → w.cell? ⟨vb, j, none⟩ = some v) (h1v : ∀ v ∈ vs, v.oneCell' = true) :
    Calls Tryz.prog 97 #[.slice (some ⟨b, 0, none⟩) n c, .int .i64 n, .slice (some ⟨vb, 0, none⟩) 1 vc] w fun e w' =>
      e = .returned (.slice (some ⟨b, 0, none⟩) (n + 1) c) ∧ w' = w.setCells b (n) vs := by
  obtain ⟨i0, z, hi0, hz0, hzs, hzb, hzc⟩ := insI_info
  have hrun : ∀ ty, (Builtin.append_ #[48, 48] ty #[.slice (some ⟨b, 0, none⟩) n c, .slice (some ⟨vb, 0, none⟩) 1 vc]).run Tryz.prog w = .ok (.slice (some ⟨b, 0, none⟩) (n + 1) c) (w.setCells b (n) vs) := fun ty => by
    have := run_append_room_cells (P := Tryz.prog) w 48 ty 3 i0 Tryz.underlying48 hi0 b 0 n c ⟨vb, 0, none⟩ 1 vc vs (by rw [hvl, hzs]) (fun j u hj => by rw [addr_add, Nat.zero_add]; exact hvs j u hj) h1v hroom
      (fun j hj => by rw [hzs, Nat.zero_add]; first | exact hsp j (by omega) | (rw [Nat.mul_one]; exact hsp j (by omega))) (fun j hj => by rw [hzs, Nat.zero_add]; first | exact hfz j (by omega) | (rw [Nat.mul_one]; exact hfz j (by omega)))
    rw [hzs, Nat.zero_add] at this
    first | exact this | (rw [Nat.mul_one] at this; exact this)
  go_enter Tryz.func97, Tryz.ntmps97
  go_wp2_with (at_builtin; refine Lib.wpList_append_run _ rfl _ _ _ _ rfl _ _ rfl rfl _ _ (hrun _) ?_)
  all_goals (go_ret; exact ⟨rfl, rfl⟩)
theorem insI_end_grow (base : Option Nat) (n c vb vc : Nat) (cs vs : List Value) (w : World) (hnc : n ≤ c) (hroom : c < n + 1) (hbig : (n + 1) * 8 ≤ 140737488355328)
    (hcl : cs.length = n) (hvl : vs.length = 1) (hnil : base = none → n = 0)
    (hcs : ∀ b, base = some b → ∀ j v, cs[j]? = some v → w.cell? ⟨b, j, none⟩ = some v)
    (hvs : ∀ j v, vs[j]? = some v → w.cell? ⟨vb, j, none⟩ = some v) (h1v : ∀ v ∈ vs, v.oneCell' = true) :
    Calls Tryz.prog 97 #[.slice (base.map fun b => ⟨b, 0, none⟩) n c, .int .i64 n, .slice (some ⟨vb, 0, none⟩) 1 vc] w fun e w' =>
      e = .returned (.slice (some ⟨w.heap.size, 0, none⟩) (n + 1) (grownCap w (n + 1) c 3)) ∧
      ∃ zc : Array Value, zc.size = 1 ∧ w' = w.drew.alloc (.cells ((cs ++ vs).toArray ++ Builtin.zeroCells zc (grownCap w (n + 1) c 3 - (n + 1))) 3) := by
  obtain ⟨i0, z, hi0, hz0, hzs, hzb, hzc⟩ := insI_info
  have hsrc : Src Tryz.prog i0.size 48 (.slice (some ⟨vb, 0, none⟩) 1 vc) 1 vs w := by
    rw [hzs]
    exact Src.ofSlice w Tryz.underlying48 ⟨vb, 0, none⟩ 1 vc vs (by omega) (fun j u hj => by rw [addr_add, Nat.zero_add]; exact hvs j u hj) h1v
  have hold : (Builtin.firstCells i0.size n (.slice (base.map fun b => ⟨b, 0, none⟩) n c)).run Tryz.prog w.drew = .ok cs.toArray w.drew := by
    rw [hzs]
    cases base with
    | none =>
      have h0 := hnil rfl
      subst h0
      rw [List.length_eq_zero_iff.1 (by omega : cs.length = 0)]
      exact run_firstCells_none w.drew 1 0 0 c
    | some b => exact run_firstCells_some w.drew 1 n ⟨b, 0, none⟩ n c cs (by omega) (fun j v hj => by rw [addr_add, Nat.zero_add]; exact hcs b rfl j v hj)
  have hrun : ∀ ty, (Builtin.append_ #[48, 48] ty #[.slice (base.map fun b => ⟨b, 0, none⟩) n c, .slice (some ⟨vb, 0, none⟩) 1 vc]).run Tryz.prog w = _ := fun ty =>
    run_append_grow_src w 48 48 ty 3 i0 z Tryz.underlying48 hi0 hz0 (base.map fun b => ⟨b, 0, none⟩) n c cs hold _ 1 vs hsrc hroom (by omega) (by rw [hzb]; exact growslice_fits hroom hbig)
  generalize z.cells = zc at hrun hzc
  clear hz0
  go_enter Tryz.func97, Tryz.ntmps97
  cases base with
  | none =>
    have h0 := hnil rfl
    subst h0
    go_wp2_with (at_builtin; refine Lib.wpList_append_run _ rfl _ _ _ _ rfl _ _ rfl rfl _ _ (hrun _) ?_)
    all_goals (go_ret; exact ⟨rfl, zc, hzc, rfl⟩)
  | some a =>
    go_wp2_with (at_builtin; refine Lib.wpList_append_run _ rfl _ _ _ _ rfl _ _ rfl rfl _ _ (hrun _) ?_)
    all_goals (go_ret; exact ⟨rfl, zc, hzc, rfl⟩)
theorem insI_grow (b n c i vb vc : Nat) (cs vs : List Value) (w : World) (hi : i < n) (hnc : n ≤ c) (hroom : c < n + 1) (hbig : (n + 1) * 8 ≤ 140737488355328)
    (hcl : cs.length = n) (hvl : vs.length = 1) (hbw : b < w.heap.size) (hvw : vb < w.heap.size)
    (hcs : ∀ j v, cs[j]? = some v → w.cell? ⟨b, j, none⟩ = some v)
    (hvs : ∀ j v, vs[j]? = some v → w.cell? ⟨vb, j, none⟩ = some v) (h1c : ∀ v ∈ cs, v.oneCell' = true) (h1v : ∀ v ∈ vs, v.oneCell' = true) :
    Calls Tryz.prog 97 #[.slice (some ⟨b, 0, none⟩) n c, .int .i64 i, .slice (some ⟨vb, 0, none⟩) 1 vc] w fun e w' =>
      e = .returned (.slice (some ⟨w.heap.size, 0, none⟩) (n + 1) (grownCap w (n + 1) c 3)) ∧
      ∃ zc : Array Value, zc.size = 1 ∧ w' = (((w.alloc (.cells ((cs.take (i)).toArray ++ Builtin.zeroCells zc (n + 1 - i) ++ Builtin.zeroCells zc (grownCap w (n + 1) c 3 - (n + 1))) 3)).drew.setCells w.heap.size (i) vs).drew).setCells w.heap.size ((i + 1)) (cs.drop (i)) := by
  have mixed : Tryz.prog.follows .mixedOrders = true := by kernel_rfl
  obtain ⟨i0, z, hi0, hz0, hzs, hzb, hzc⟩ := insI_info
  have hz2 : ¬ ((i : Int) = (n : Int)) := by omega
  have hz3 : (c : Int) < (n : Int) + 1 := by omega
  have hsz : (Tryz.prog.info? 3).map (·.size) = some 1 := by rw [hi0]; simp [hzs]
  have hkk : (n : Int) + 1 - (i : Int) = ((n + 1 - i : Nat) : Int) := by omega
  have hik : i + (n + 1 - i) = n + 1 := by omega
  have hold : (Builtin.firstCells i0.size i (.slice (some ⟨b, 0, none⟩) i c)).run Tryz.prog w.drew = .ok (cs.take (i)).toArray w.drew := by
    rw [hzs]
    exact run_firstCells_some w.drew 1 i ⟨b, 0, none⟩ i c (cs.take (i)) (by rw [List.length_take]; omega) (fun j v hj => by
      rw [addr_add, Nat.zero_add]
      rw [List.getElem?_take] at hj
      split at hj
      · exact hcs j v hj
      · cases hj)
  have hrz : ∀ ty, (Builtin.append_ #[48, 3] ty #[.slice (some ⟨b, 0, none⟩) i c, .int .i64 ((n : Int) + 1 - (i : Int))]).run Tryz.prog w =
      .ok (.slice (some ⟨w.heap.size, 0, none⟩) (n + 1) (grownCap w (n + 1) c 3)) (w.drew.alloc (.cells ((cs.take (i)).toArray ++ Builtin.zeroCells z.cells (n + 1 - i) ++ Builtin.zeroCells z.cells (grownCap w (n + 1) c 3 - (n + 1))) 3)) := fun ty => by
    have h := Lib.run_append_grow_zeros w 48 3 ty 3 i0 z .i64 .i64 Tryz.underlying48 Tryz.underlying3 hi0 hz0 (some ⟨b, 0, none⟩) i c (cs.take (i)) hold (n + 1 - i) (by omega) (by omega) (by omega) (by omega) (by rw [hzb]; omega) (by rw [hzb, hik]; exact growslice_fits hroom hbig)
    rw [hik] at h
    rw [hkk]
    exact h
  obtain ⟨G, hG⟩ : ∃ G, G = grownCap w (n + 1) c 3 := ⟨_, rfl⟩
  obtain ⟨ROW, hROW⟩ : ∃ ROW : Array Value, ROW = (cs.take (i)).toArray ++ Builtin.zeroCells z.cells (n + 1 - i) ++ Builtin.zeroCells z.cells (G - (n + 1)) := ⟨_, rfl⟩
  rw [← hG] at hrz ⊢
  rw [← hROW] at hrz
  have hRl : (n + 1) ≤ ROW.size := by
    rw [hROW]
    simp [Builtin.zeroCells, hzc]
    omega
  obtain ⟨W1, hW1⟩ : ∃ W1, W1 = w.drew.alloc (.cells ROW 3) := ⟨_, rfl⟩
  rw [← hW1] at hrz
  have hN : ∀ j, j < (n + 1) → (W1.cell? ⟨w.heap.size, j, none⟩).isSome = true := fun j hj => by
    rw [hW1, World.cell?_alloc_at (w := w.drew) ROW _ w.heap.size j rfl, Array.getElem?_eq_getElem (by omega)]; rfl
  have hNf : ∀ j, W1.frozen? ⟨w.heap.size, j, none⟩ = false := fun j => by rw [hW1]; exact World.frozen?_alloc_at (w := w.drew) ROW _ w.heap.size j rfl
  have hOb : ∀ j v, w.cell? ⟨b, j, none⟩ = some v → W1.cell? ⟨b, j, none⟩ = some v := fun j v h => by rw [hW1, World.cell?_alloc_past (w := w.drew) _ b j hbw]; exact h
  have hOv : ∀ j v, w.cell? ⟨vb, j, none⟩ = some v → W1.cell? ⟨vb, j, none⟩ = some v := fun j v h => by rw [hW1, World.cell?_alloc_past (w := w.drew) _ vb j hvw]; exact h
  have hcpA : ∀ (W : World), (∀ x, W.cell? x = W1.cell? x) → (∀ x, W.frozen? x = W1.frozen? x) → ∀ ty dc, (Builtin.copy_ #[48, 48] ty #[.slice (some ⟨w.heap.size, i, none⟩) (n + 1 - i) dc, .slice (some ⟨vb, 0, none⟩) 1 vc]).run Tryz.prog W = .ok (goInt 1) (W.setCells w.heap.size (i) vs) := fun W hWc hWf ty dc => by
    have hm : Nat.min 1 (n + 1 - i) = 1 := by simp only [Nat.min_def]; split <;> omega
    have := run_copy_K (P := Tryz.prog) W 48 48 ty 3 1 w.heap.size (i) (n + 1 - i) dc ⟨vb, 0, none⟩ 1 vc vs Tryz.underlying48 hsz (by rw [hm, hvl]; try omega)
      (fun j v hj => by rw [addr_add, Nat.zero_add, hWc]; exact hOv _ v (hvs j v hj))
      (fun j hj => by rw [hWc]; exact hN _ (by omega)) (fun j hj => by rw [hWf]; exact hNf _) h1v
    rw [hm] at this
    exact this
  have hGn : n + 1 ≤ G := by rw [hG]; exact grownCap_ge w _ _ _
  have hG63 : G ≤ 9223372036854775807 := by
    have := grownCap_le_maxLen w (n + 1) c 3 (by unfold maxLen; omega)
    rw [← hG] at this
    unfold maxLen at this
    omega
  have hGi : ¬ (G = i) := by omega
  have hGim : ¬ (G = i + 1) := by omega
  have hci : ¬ (c = i) := by omega
  have hbN : b ≠ w.heap.size := by omega
  have hdl : (cs.drop (i)).length = (n - i) := by first | (rw [List.length_drop, hcl]; omega) | (rw [List.length_drop, hcl])
  have hcpB : ∀ (W : World), (∀ x, W.cell? x = (W1.setCells w.heap.size (i) vs).cell? x) → (∀ x, W.frozen? x = (W1.setCells w.heap.size (i) vs).frozen? x) → ∀ ty dc sc, (Builtin.copy_ #[48, 48] ty #[.slice (some ⟨w.heap.size, (i + 1), none⟩) (n - i) dc, .slice (some ⟨b, i, none⟩) (n - i) sc]).run Tryz.prog W = .ok (goInt ((n - i : Nat) : Int)) (W.setCells w.heap.size ((i + 1)) (cs.drop (i))) := fun W hWc hWf ty dc sc => by
    have hm : Nat.min (n - i) (n - i) = n - i := by simp only [Nat.min_def]; split <;> omega
    have := run_copy_K (P := Tryz.prog) W 48 48 ty 3 1 w.heap.size ((i + 1)) (n - i) dc ⟨b, i, none⟩ (n - i) sc (cs.drop (i)) Tryz.underlying48 hsz (by rw [hm, hdl]; try omega)
      (fun j v hj => by
        rw [addr_add, hWc, World.cell?_setCells_out _ _ _ _ _ (fun h _ => absurd h hbN)]
        exact hOb _ v (hcs (i + j) v (by rwa [List.getElem?_drop] at hj)))
      (fun j hj => by rw [hWc]; exact isSome_setCellsK _ _ _ _ (fun t ht => hN _ (by omega)) _ (hN _ (by omega)))
      (fun j hj => by rw [hWf, World.frozen?_setCells]; exact hNf _) (fun v hv => h1c v (List.mem_of_mem_drop hv))
    rw [hm] at this
    exact this
  subst hW1
  have hE1 : ∀ x, ((w.alloc (.cells ROW 3)).drew).cell? x = (w.drew.alloc (.cells ROW 3)).cell? x := fun x => rfl
  have hE2 : ∀ x, ((w.alloc (.cells ROW 3)).drew).frozen? x = (w.drew.alloc (.cells ROW 3)).frozen? x := fun x => rfl
  have hF1 : ∀ x, (((w.alloc (.cells ROW 3)).drew.setCells w.heap.size (i) vs).drew).cell? x = ((w.drew.alloc (.cells ROW 3)).setCells w.heap.size (i) vs).cell? x := fun x => rfl
  have hF2 : ∀ x, (((w.alloc (.cells ROW 3)).drew.setCells w.heap.size (i) vs).drew).frozen? x = ((w.drew.alloc (.cells ROW 3)).setCells w.heap.size (i) vs).frozen? x := fun x => rfl
  have hw1 : IntKind.i64.wrap ((i : Int) + 1) = (i : Int) + 1 := by rw [IntKind.wrap_i64]; omega
  have hb1 : (0 : Int) ≤ (i : Int) + 1 := by omega
  have hin : i ≤ n := by omega
  have htn : ((i : Int) + 1).toNat = i + 1 := by omega
  have hb3 : (i : Int) ≤ (n : Int) := by omega
  have h0 : Calls Tryz.prog 97 #[.slice (some ⟨b, 0, none⟩) n c, .int .i64 i, .slice (some ⟨vb, 0, none⟩) 1 vc] w fun e w' =>
      e = .returned (.slice (some ⟨w.heap.size, 0, none⟩) (n + 1) G) ∧ w' = (((w.alloc (.cells ROW 3)).drew.setCells w.heap.size (i) vs).drew).setCells w.heap.size ((i + 1)) (cs.drop (i)) := by
   clear hkk hik hold hG hRl hROW hz0
   go_enter Tryz.func97, Tryz.ntmps97
   go_wp2_with (first
     | (at_builtin; refine Lib.wpList_append_run _ rfl _ _ _ _ rfl _ _ rfl rfl _ _ (hrz _) ?_)
     | (at_builtin; refine wpList_copyK _ rfl _ _ 48 48 rfl _ _ rfl rfl (hcpA _ hE1 hE2 _ _) ?_))
   go_region_law_o (refine step_copyK rfl _ _ 48 48 rfl (.slice (some ⟨w.heap.size, (i + 1), none⟩) (n - i) (G - (i + 1))) (.slice (some ⟨b, i, none⟩) (n - i) (c - i)) (by simp [Act.eval, Act.put]) (by simp [Act.eval, Act.put]) (hcpB _ hF1 hF2 3 (G - (i + 1)) (c - i)) ?_)
   go_wp2
   go_ret
   exact ⟨rfl, rfl⟩
  refine h0.mono ?_
  rintro e w' ⟨rfl, rfl⟩
  exact ⟨rfl, z.cells, hzc, by rw [hROW]⟩
/-- slices.Insert of one element. -/
theorem insI_ok (es : List (List D)) (x : List D) (i : Nat) (z z2 : List D) (hes : rowsOk 1 es) (hx : rowsOk 1 [x]) (hi : i ≤ es.length) (hbig : (es.length + 1) * 8 ≤ 140737488355328) :
    FnMem Tryz.prog 97 [.os 50001 es.length, .d (.lit (.int .i64 i)), .os 50002 1] [(50001, .own 3 1 (true, z) es), (50002, .own 3 1 (true, z2) [x])] (.os 50001 (es.length + 1)) [(50001, .own 3 1 (true, z) (es.take i ++ x :: es.drop i))] := by
  refine ⟨by kernel_rfl, fun ok h w vs hok hstd hlow hlies hargs => ?_⟩
  obtain ⟨hvs, hva⟩ := hargs
  obtain ⟨hs1, hm1, ho1⟩ := hlies.obj 50001 _ rfl
  obtain ⟨hs2, hm2, ho2⟩ := hlies.obj 50002 _ rfl
  obtain ⟨v0, hv0, hr0⟩ := hva 0 _ rfl
  obtain ⟨v1, hv1, hr1⟩ := hva 1 _ rfl
  obtain ⟨v2, hv2, hr2⟩ := hva 2 _ rfl
  obtain rfl : vs = #[v0, v1, v2] := by
    obtain ⟨vs⟩ := vs
    match vs, hvs, hv0, hv1, hv2 with
    | [_, _, _], _, hv0, hv1, hv2 => cases hv0; cases hv1; cases hv2; rfl
  obtain rfl := lit_of hr1
  cases hr0 with
  | os _ _ hc1 =>
  cases hr2 with
  | os _ _ hc2 =>
  clear hva hv0 hv1 hv2 hr1 hvs
  have hlen' : (es.take i ++ x :: es.drop i).length = es.length + 1 := by simp; omega
  rcases ho2 with ⟨_, e2, _⟩ | ⟨vb, cur2, fz2, g1, g2, g3, g4, g5, g6, g7⟩
  · cases e2
  obtain rfl := g4 rfl
  have hx1 : [x].length ≤ cur2.size := by rw [g6]; simp only [List.length_cons, List.length_nil] at g5 ⊢; omega
  have hxr := own_cells (w := w) (ok := ok) g7 (by omega)
  try simp only [Nat.mul_one] at hxr
  have hxo := rows_one hxr hx (by decide)
  have hxl := hxr.1
  have hvs : ∀ j v, (cur2.toList.take ([x].length))[j]? = some v → w.cell? ⟨vb, j, none⟩ = some v := fun j v hj => by
    rw [List.getElem?_take] at hj
    split at hj
    · simpa [World.cell?, g2] using hj
    · cases hj
  generalize cur2.toList.take ([x].length) = vs at hxr hxo hxl hvs
  simp only [List.length_cons, List.length_nil] at hxl
  obtain ⟨hvlt, hvok⟩ := hlies.blk 50002 _ vb rfl g1
  have hsa : w.shape? vb = some (3, cur2.size) := by simp [World.shape?, g2]
  have hfa : w.frozen? ⟨vb, 0, none⟩ = false := by simp [World.frozen?, g2]
  have hfe : w.frozen? ⟨vb, cur2.size, none⟩ = false := by simp [World.frozen?, g2]
  have ha2 : (h 50002).addr = some ⟨vb, 0, none⟩ := by simp [Hd.addr, g1]
  rw [ha2]
  -- a new row, of the cells that it should have
  have fresh : ∀ (w' : World) (b' cap' : Nat) (cur' : Array Value) (cs : List Value), RowsRd w ok 1 es cs → w'.os = w.os → w'.tape = w.tape → w'.output = w.output → w.heap.size ≤ w'.heap.size → (∀ k, k < w.heap.size → k ≠ b' → w'.heap[k]? = w.heap[k]?) →
      ((h 50001).blk = some b' ∨ (w.heap.size ≤ b' ∧ b' < w'.heap.size)) → w'.heap[b']? = some (.cells cur' 3 (0, 0)) → cur'.size = cap' * 1 → cap' ≤ maxLen → es.length + 1 ≤ cap' → (∀ q, q < (es.length + 1) → cur'[q]? = (cs.take (i) ++ vs ++ cs.drop (i))[q]?) →
      ∃ v ok' h', Ending.returned (.slice (some ⟨b', 0, none⟩) (es.length + 1) cap') = .returned v ∧ Lw.Left [(50001, .own 3 1 (true, z) es), (50002, .own 3 1 (true, z2) [x])] [(50001, .own 3 1 (true, z) (es.take i ++ x :: es.drop i))] (.os 50001 (es.length + 1)) ok h w ok' h' w' v := fun w' b' cap' cur' cs hcs k1 k2 k3 k4 k5 k6 k7 k8 k9 k10 k11 => by
    have hrr := ins_rows hcs hxr hi
    try simp only [Nat.mul_one] at hrr
    refine ⟨_, ok, _, rfl, left_row hok hlies rfl k1 k2 k3 k4 k5 k6 k7 k8 k9 (by rw [hlen']; exact k10) k10 (hrr.own fun q hq => k11 q ?_)⟩
    rw [hrr.1, hlen'] at hq
    omega
  have nothing : ∀ (cs : List Value), cs.length = es.length → ∀ q, (cs.take (i) ++ vs ++ cs.drop (i))[q]? = if q < i then cs[q]? else if q < (i + 1) then vs[q - i]? else cs[q - 1]? := fun cs hl q => by
    have htl : (cs.take (i)).length = i := by rw [List.length_take]; omega
    by_cases q1 : q < i
    · rw [if_pos q1, List.append_assoc, List.getElem?_append_left (by omega), List.getElem?_take, if_pos q1]
    · rw [if_neg q1]
      by_cases q2 : q < (i + 1)
      · rw [if_pos q2, List.append_assoc, List.getElem?_append_right (by omega), List.getElem?_append_left (by omega), htl]
      · rw [if_neg q2, List.append_assoc, List.getElem?_append_right (by omega), List.getElem?_append_right (by omega), List.getElem?_drop, htl]
        congr 1
        omega
  rcases ho1 with ⟨e1, e2, e3⟩ | ⟨b, cur, fz, f1, f2, f3, f4, f5, f6, f7⟩
  · subst e2
    simp only [List.length_nil, Nat.le_zero_eq] at hi
    subst hi
    have ha : (h 50001).addr = (none : Option Nat).map fun b => ⟨b, 0, none⟩ := by simp [Hd.addr, e1]
    rw [ha, e3]
    refine (insI_end_grow none 0 0 vb _ [] vs w (by omega) (by omega) (by omega) rfl (by omega) (fun _ => rfl) (fun b hb => by cases hb) hvs hxo).mono ?_
    rintro e w' ⟨rfl, zc, hzc, rfl⟩
    have hG := grownCap_ge w 1 0 3
    have hGm := grownCap_le_maxLen w 1 0 3 (by unfold maxLen; omega)
    refine fresh _ w.heap.size (grownCap w 1 0 3) _ [] ⟨rfl, fun j l hj => by simp at hj⟩ rfl rfl rfl (by show w.heap.size ≤ (w.heap.push _).size; simp) (fun k hk _ => by show (w.heap.push _)[k]? = _; rw [Array.getElem?_push, if_neg (Nat.ne_of_lt hk)]) (.inr ⟨Nat.le_refl _, by show w.heap.size < (w.heap.push _).size; simp⟩) (heap_alloc_new w.drew _) ?_ hGm hG (fun q hq => ?_)
    · simp [Builtin.zeroCells, hzc, hxl]
      omega
    · simp only [List.length_nil] at hq
      rw [List.nil_append, Array.getElem?_append_left (by simp; omega)]
      simp
  · obtain rfl := f4 rfl
    have hfit : es.length ≤ cur.size := by rw [f6]; omega
    have hcr := own_cells (w := w) (ok := ok) f7 (by omega)
    try simp only [Nat.mul_one] at hcr
    have hco := rows_one hcr hes (by decide)
    have hcl := hcr.1
    try simp only [Nat.mul_one] at hcl
    have hcq : ∀ j, (cur.toList.take (es.length))[j]? = if j < es.length then cur[j]? else none := fun j => by rw [List.getElem?_take]; simp
    have hcs : ∀ j v, (cur.toList.take (es.length))[j]? = some v → w.cell? ⟨b, j, none⟩ = some v := fun j v hj => by
      rw [hcq] at hj
      split at hj
      · simpa [World.cell?, f2] using hj
      · cases hj
    generalize cur.toList.take (es.length) = cs at hcr hco hcl hcs hcq
    obtain ⟨hblt, hbok⟩ := hlies.blk 50001 _ b rfl f1
    have hvb : vb ≠ b := fun e => hlies.apart 50001 50002 _ _ b rfl rfl (by decide) f1 (by rw [g1, e])
    have ha1 : (h 50001).addr = (some b).map fun b => ⟨b, 0, none⟩ := by simp [Hd.addr, f1]
    have hcell : ∀ j, j < cur.size → (w.cell? ⟨b, j, none⟩).isSome = true := fun j hj => by simp [World.cell?, f2, hj]
    have hfro : ∀ j, w.frozen? ⟨b, j, none⟩ = false := fun j => by simp [World.frozen?, f2]
    have hnth := nothing cs hcl
    rw [ha1]
    by_cases hroom : es.length + 1 ≤ (h 50001).cap
    · have hsz : (es.length + 1) ≤ cur.size := by rw [f6]; omega
      by_cases hin : i = es.length
      · subst hin
        refine (insI_end_room b es.length _ vb _ vs w hroom (by have := hm1; unfold maxLen at this; omega) (by omega) (fun j hj => hcell _ (by omega)) (fun j hj => hfro _) hvs hxo).mono ?_
        rintro e w' ⟨rfl, rfl⟩
        obtain ⟨cur', c1, c2, c3⟩ := heap_setCells b 3 (0, 0) vs (es.length) cur w f2 (by omega)
        obtain ⟨d1, d2, d3, d4, d5⟩ := setCells_frame b vs (es.length) w
        refine fresh _ b (h 50001).cap cur' cs hcr d1 d2 d3 (by omega) (fun k _ hk => d5 k hk) (.inl f1) c1 (by omega) hm1 hroom (fun q hq => ?_)
        rw [c3, hnth]
        by_cases q1 : q < es.length
        · rw [if_neg (by omega), if_pos q1, hcq, if_pos q1]
        · rw [if_pos (by omega), if_neg q1, if_pos hq]
      · refine (insI_shift b es.length _ i vb _ cs vs w (by omega) hroom (by have := hm1; unfold maxLen at this; omega) hvb hcl (by omega) hcs (fun j hj => hcell _ (by omega)) (fun j hj => hfro _) hvs hco hxo _ 3 _ cur.size hsa (by simp [World.shape?, f2]) (by omega) hfa hfe).mono ?_
        rintro e w' ⟨rfl, rfl⟩
        have hdl : (cs.drop (i)).length = es.length - i := by rw [List.length_drop, hcl]
        obtain ⟨cur1, c1, c2, c3⟩ := heap_setCells b 3 (0, 0) (cs.drop (i)) ((i + 1)) cur w.drew f2 (by omega)
        obtain ⟨d1, d2, d3, d4, d5⟩ := setCells_frame b (cs.drop (i)) ((i + 1)) w.drew
        obtain ⟨cur', c4, c5, c6⟩ := heap_setCells b 3 (0, 0) vs (i) cur1 _ c1 (by omega)
        obtain ⟨d6, d7, d8, d9, d10⟩ := setCells_frame b vs (i) (w.drew.setCells b ((i + 1)) (cs.drop (i)))
        refine fresh _ b (h 50001).cap cur' cs hcr (d6.trans d1) (d7.trans d2) (d8.trans d3) (by rw [d9, d4]; exact Nat.le_refl _) (fun k _ hk => (d10 k hk).trans (d5 k hk)) (.inl f1) c4 (by omega) hm1 hroom (fun q hq => ?_)
        rw [c6, c3, hnth]
        by_cases q1 : q < i
        · rw [if_neg (by omega), if_neg (by omega), if_pos q1, hcq, if_pos (by omega)]
        · by_cases q2 : q < (i + 1)
          · rw [if_pos (by omega), if_neg q1, if_pos q2]
          · rw [if_neg (by omega), if_pos (by omega), if_neg q1, if_neg q2, List.getElem?_drop]
            congr 1
            omega
    · have hG := grownCap_ge w (es.length + 1) (h 50001).cap 3
      have hGm := grownCap_le_maxLen w (es.length + 1) (h 50001).cap 3 (by unfold maxLen; omega)
      by_cases hin : i = es.length
      · subst hin
        refine (insI_end_grow (some b) es.length _ vb _ cs vs w (by omega) (by omega) hbig hcl (by omega) (fun e => by cases e) (fun b' hb' => by cases hb'; exact hcs) hvs hxo).mono ?_
        rintro e w' ⟨rfl, zc, hzc, rfl⟩
        refine fresh _ w.heap.size (grownCap w (es.length + 1) (h 50001).cap 3) _ cs hcr rfl rfl rfl (by show w.heap.size ≤ (w.heap.push _).size; simp) (fun k hk _ => by show (w.heap.push _)[k]? = _; rw [Array.getElem?_push, if_neg (Nat.ne_of_lt hk)]) (.inr ⟨Nat.le_refl _, by show w.heap.size < (w.heap.push _).size; simp⟩) (heap_alloc_new w.drew _) ?_ hGm hG (fun q hq => ?_)
        · simp [Builtin.zeroCells, hzc, hxl, hcl]
          omega
        · rw [Array.getElem?_append_left (by simp; omega)]
          have ht : cs.take (es.length) = cs := List.take_of_length_le (by omega)
          have hdr : cs.drop (es.length) = [] := List.drop_eq_nil_of_le (by omega)
          rw [ht, hdr]
          simp
      · refine (insI_grow b es.length _ i vb _ cs vs w (by omega) (by omega) (by omega) hbig hcl (by omega) hblt hvlt hcs hvs hco hxo).mono ?_
        rintro e w' ⟨rfl, zc, hzc, rfl⟩
        have hdl : (cs.drop (i)).length = es.length - i := by rw [List.length_drop, hcl]
        have htl : (cs.take (i)).length = i := by rw [List.length_take]; omega
        generalize hROW : (cs.take (i)).toArray ++ Builtin.zeroCells zc (es.length + 1 - i) ++ Builtin.zeroCells zc (grownCap w (es.length + 1) (h 50001).cap 3 - (es.length + 1)) = ROW
        have hRs : ROW.size = grownCap w (es.length + 1) (h 50001).cap 3 * 1 := by
          rw [← hROW]
          simp [Builtin.zeroCells, hzc]
          omega
        have hR1 : ∀ q, q < i → ROW[q]? = cs[q]? := fun q hq => by
          rw [← hROW, Array.append_assoc, Array.getElem?_append_left (by simp; omega)]
          simp [hq]
        have h0 : ((w.alloc (.cells ROW 3)).drew).heap[w.heap.size]? = some (.cells ROW 3 (0, 0)) := heap_alloc_new w _
        obtain ⟨cur1, c1, c2, c3⟩ := heap_setCells w.heap.size 3 (0, 0) vs (i) ROW _ h0 (by omega)
        obtain ⟨d1, d2, d3, d4, d5⟩ := setCells_frame w.heap.size vs (i) ((w.alloc (.cells ROW 3)).drew)
        obtain ⟨cur', c4, c5, c6⟩ := heap_setCells w.heap.size 3 (0, 0) (cs.drop (i)) ((i + 1)) cur1 (((w.alloc (.cells ROW 3)).drew.setCells w.heap.size (i) vs).drew) c1 (by omega)
        obtain ⟨d6, d7, d8, d9, d10⟩ := setCells_frame w.heap.size (cs.drop (i)) ((i + 1)) (((w.alloc (.cells ROW 3)).drew.setCells w.heap.size (i) vs).drew)
        have hsz4 : ((w.alloc (.cells ROW 3)).drew).heap.size = w.heap.size + 1 := by show (w.heap.push _).size = _; simp
        have hd9 : ((((w.alloc (.cells ROW 3)).drew.setCells w.heap.size (i) vs).drew).setCells w.heap.size ((i + 1)) (cs.drop (i))).heap.size = w.heap.size + 1 := d9.trans (d4.trans hsz4)
        refine fresh _ w.heap.size (grownCap w (es.length + 1) (h 50001).cap 3) cur' cs hcr (d6.trans d1) (d7.trans d2) (d8.trans d3) (by omega) (fun k hk hne => (d10 k hne).trans ((d5 k hne).trans (by show (w.heap.push _)[k]? = _; rw [Array.getElem?_push, if_neg (Nat.ne_of_lt hk)]))) (.inr ⟨Nat.le_refl _, by omega⟩) c4 (by omega) hGm hG (fun q hq => ?_)
        rw [c6, c3, hnth]
        by_cases q1 : q < i
        · rw [if_neg (by omega), if_neg (by omega), if_pos q1, hR1 q q1]
        · by_cases q2 : q < (i + 1)
          · rw [if_neg (by omega), if_pos (by omega), if_neg q1, if_pos q2]
          · rw [if_pos (by omega), if_neg q1, if_neg q2, List.getElem?_drop]
            congr 1
            omega
end Go.Proofs.YtnainpghpjelcaaGreatDoor
/-
  URGENT: the reference; FrontierUrgentMatchesSpec's own walk. (WITH run_drawN.)
-/
set_option linter.unusedSimpArgs false
set_option linter.unusedVariables false
namespace Go.Proofs.YtnainpghpjelcaaGreatDoor
open Go.Lw Go.RowKit Go.ChangeShapes Go.WideShapes Go.ChangeAt
set_option maxRecDepth 100000
set_option maxHeartbeats 8000000

abbrev wtcD (x : Wtc) : D := .agg [str x.1, visSl x.2]
def befB (a b : List Vis) (t : Int) : Bool := if a.length = 0 ∨ b.length = 0 then decide (a.length = 0) && decide (0 < b.length) else decide (urgU b t * (a.length : Int) < urgU a t * (b.length : Int))
theorem before_ok (a b : Wtc) (t : Int) (h1 : VisOk a.2 t) (h2 : VisOk b.2 t) : FnOk Tryz.prog 96 [wtcD a, wtcD b, int t] (tru (befB a.2 b.2 t)) := by
  refine fnOk Tryz.func96 rfl (by kernel_rfl) Tryz.ntmps96 _ rfl (by simp) fun C hc => ?_
  obtain ⟨a1, va⟩ := a
  obtain ⟨b1, vb⟩ := b
  simp only at h1 h2
  have hnil : ∀ v : List Vis, v.length = 0 ↔ v = [] := fun v => List.length_eq_zero_iff
  have l1 := h1.len
  have l2 := h2.len
  unfold befB
  simp only
  by_cases h0 : va.length = 0 ∨ vb.length = 0
  · rw [if_pos h0]
    repeat' (first | (first | refine Ya ?_ | refine Yb ?_ | refine Yc ?_ | refine Yd ?_ | refine Ye ?_ | refine Yf ?_ | refine Yg ?_ | refine Yh ?_ | refine Yi ?_ | refine Yj ?_ | refine Yk ?_ | refine Yl ?_ | refine Ym ?_ | refine Yn ?_ | refine Yo ?_ | refine Yp (h := ?_) | refine Yq ?_ | refine Yr ?_ | refine Ys ?_ | refine Zr hc (hk := ?_) | refine Zd hc (hk := ?_) | (refine Zc (ht := fun hb => ?_) (hf := fun hb => ?_) <;> (try simp at hb)) | fail) | (first | refine Zo hc (hk := ?_) | refine Zu hc (hk := ?_) | refine Ze hc (hk := ?_) | refine Zn hc (hk := ?_) | fail))
    all_goals try contradiction
    all_goals try (exfalso; omega)
    all_goals try (exfalso; rw [hnil, hnil] at h0; rcases h0 with h | h; exact hb.1 h; exact hb.2 h)
    (refine Zl hc (hr := ?_))
    refine res_bool ?_
    rw [Bool.eq_iff_iff]
    simp
  rw [if_neg h0]
  have c1 := changesR_ok va (by omega)
  have c2 := changesR_ok vb (by omega)
  have b1' := urgU_bd h1 (by omega)
  have b2' := urgU_bd h2 (by omega)
  have m1 := mul_bd b1' (q := (vb.length : Int)) (by omega)
  have m2 := mul_bd b2' (q := (va.length : Int)) (by omega)
  have k1 := changes_bd va
  have k2 := changes_bd vb
  have la := h1.last (by omega)
  have lb := h2.last (by omega)
  have ht := h1.t0
  unfold urgU lastV at *
  generalize changes va = ca at *
  generalize changes vb = cb at *
  repeat' (first | (first | refine Ya ?_ | refine Yb ?_ | refine Yc ?_ | refine Yd ?_ | refine Ye ?_ | refine Yf ?_ | refine Yg ?_ | refine Yh ?_ | refine Yi ?_ | refine Yj ?_ | refine Yk ?_ | refine Yl ?_ | refine Ym ?_ | refine Yn ?_ | refine Yo ?_ | refine Yp (h := ?_) | refine Yq ?_ | refine Yr ?_ | refine Ys ?_ | refine Zr hc (hk := ?_) | refine Zd hc (hk := ?_) | (refine Zc (ht := fun hb => ?_) (hf := fun hb => ?_) <;> (try simp at hb)) | fail) | (first | refine Zw hc (hf := by first | exact c1 | exact c2) (hk := ?_) | refine Zq hc (hf := by first | exact c1 | exact c2) (hk := ?_) | refine Zo hc (hk := ?_) | refine Zu hc (hk := ?_) | refine Ze hc (hk := ?_) | refine Zn hc (hk := ?_) | fail))
  all_goals try contradiction
  all_goals try (exfalso; omega)
  all_goals try (exfalso; rw [hnil, hnil] at h0; exact h0 hb)
  (refine Zl hc (hr := ?_))
  simp
theorem bef_lt (L : List Wtc) (t : Int) (x y : Nat) (h1 : VisOk (wtcAt L x).2 t) (h2 : VisOk (wtcAt L y).2 t) : befB (wtcAt L x).2 (wtcAt L y).2 t = urgLt L t (x : Int) (y : Int) := by
  unfold urgLt urgP urgV befB
  simp only [Int.toNat_natCast]
  have b1 := fun h => urgU_bd h1 h
  have b2 := fun h => urgU_bd h2 h
  change _ = decide ((if (wtcAt L y).2.length = 0 then 1 else urgU (wtcAt L y).2 t) * _ < (if (wtcAt L x).2.length = 0 then 1 else urgU (wtcAt L x).2 t) * _)
  generalize urgU (wtcAt L x).2 t = p at *
  generalize urgU (wtcAt L y).2 t = u at *
  generalize (wtcAt L x).2.length = n at *
  generalize (wtcAt L y).2.length = m at *
  by_cases hn : n = 0
  · subst hn
    rw [if_pos (.inl rfl), if_pos rfl]
    by_cases hm : m = 0
    · subst hm; simp
    · rw [if_neg hm]
      simp
  · by_cases hm : m = 0
    · subst hm
      rw [if_pos (.inr rfl), if_pos rfl, if_neg hn]
      simp [hn]
    · rw [if_neg (by omega), if_neg hn, if_neg hm]
theorem insInt_ok (X : List Int) (x : Int) (p : Nat) (hp : p ≤ X.length) (hl : X.length ≤ 300) :
    FnMem Tryz.prog 97 [.os 50001 X.length, .d (int p), .os 50002 1] [(50001, .own 3 1 (true, [int 0]) (X.map fun y => [int y])), (50002, .own 3 1 (true, [int 0]) [[int x]])]
      (.os 50001 (X.length + 1)) [(50001, .own 3 1 (true, [int 0]) ((X.take p ++ x :: X.drop p).map fun y => [int y]))] := by
  have h := insI_ok (X.map fun y => [int y]) [int x] p [int 0] [int 0] (by simp) (by simp) (by simpa using hp) (by simp; omega)
  simpa using h
theorem qUrgent_ok (L : List Wtc) (t n : Int) (hl : L.length ≤ 9223372036854775807) (hk : ∀ j, (wtcAt L j).1.length ≤ 9223372036854775807) (hv : ∀ j, (wtcAt L j).2.length ≤ 9223372036854775807) : FnOk Tryz.prog 38 [wtcSl L, int t, int n] (urgD L t n) := by
  refine fnOk Tryz.func38 rfl (by kernel_rfl) Tryz.ntmps38 _ rfl (by simp) fun C hc => ?_
  have h2 := qFrWithin_ok t 0 253402300799
  have h3 := qFrWithin_ok n 0 300
  unfold urgD
  by_cases hfew : 300 < L.length
  · have he : urgE L t n = 2 := by
      unfold urgE wtcE
      rw [if_pos hfew, if_pos (by decide)]
    rw [he, if_pos (by decide)]
    repeat' (first | (first | refine Ya ?_ | refine Yb ?_ | refine Yc ?_ | refine Yd ?_ | refine Ye ?_ | refine Yf ?_ | refine Yg ?_ | refine Yh ?_ | refine Yi ?_ | refine Yj ?_ | refine Yk ?_ | refine Yl ?_ | refine Ym ?_ | refine Yn ?_ | refine Yo ?_ | refine Yp (h := ?_) | refine Yq ?_ | refine Yr ?_ | refine Ys ?_ | refine Zr hc (hk := ?_) | refine Zd hc (hk := ?_) | (refine Zc (ht := fun hb => ?_) (hf := fun hb => ?_) <;> (try simp at hb)) | fail) | (first | refine Zo hc (hk := ?_) | refine Zu hc (hk := ?_) | refine Ze hc (hk := ?_) | refine Zn hc (hk := ?_) | fail))
    all_goals try contradiction
    all_goals try (exfalso; omega)
    (refine Zl hc (hr := ?_))
    simp
  have hE : urgE L t n = if wtcGo L t 0 ≠ 0 then wtcGo L t 0 else if decide (okM t) = false ∨ decide (0 ≤ n ∧ n ≤ 300) = false then 1 else 0 := by
    unfold urgE wtcE
    rw [if_neg hfew]
  repeat' (first | (first | refine Ya ?_ | refine Yb ?_ | refine Yc ?_ | refine Yd ?_ | refine Ye ?_ | refine Yf ?_ | refine Yg ?_ | refine Yh ?_ | refine Yi ?_ | refine Yj ?_ | refine Yk ?_ | refine Yl ?_ | refine Ym ?_ | refine Yn ?_ | refine Yo ?_ | refine Yp (h := ?_) | refine Yq ?_ | refine Yr ?_ | refine Ys ?_ | refine Zr hc (hk := ?_) | refine Zd hc (hk := ?_) | (refine Zc (ht := fun hb => ?_) (hf := fun hb => ?_) <;> (try simp at hb)) | fail) | (first | refine Zo hc (hk := ?_) | refine Zu hc (hk := ?_) | refine Ze hc (hk := ?_) | refine Zn hc (hk := ?_) | fail))
  all_goals try contradiction
  all_goals try (exfalso; omega)
  refine ewp_loop (fun j : Nat => ⟨[(0, .d (wtcSl L)), (1, .d (int t)), (2, .d (int n)), (21, .d (wtcSl L)), (22, .d (int L.length)), (23, .d (int j))], []⟩) (fun j => j ≤ L.length ∧ wtcGo L t 0 = wtcGo L t j) (fun j => L.length - j) 0 (by simp) (run_keep [0, 1, 2, 21, 22, 23] [] (by simp; exact Gives.mk) (by simp; exact Gives.mk)) ?_
  rintro j ⟨hj, hA⟩
  have hst : wtcGo L t j = if j < L.length then (if (ofK (wtcAt L j).1).2 ≠ 0 then ((ofK (wtcAt L j).1).2 : Int) else if checkVisits (wtcAt L j).2 ≠ 0 then checkVisits (wtcAt L j).2 else if 0 < (wtcAt L j).2.length ∧ t < lastV (wtcAt L j).2 then 8 else wtcGo L t (j + 1)) else 0 := by rw [wtcGo]
  by_cases hlt : j < L.length
  · have h1 := qOfKey_ok (wtcAt L j).1 (hk j)
    have h4 := checkVisitsR_ok (wtcAt L j).2 (hv j)
    have hvj := hv j
    rw [if_pos hlt] at hst
    generalize ofK (wtcAt L j).1 = y at h1 hst
    generalize checkVisits (wtcAt L j).2 = e at h4 hst
    unfold lastV at hst
    clear h2 h3
    repeat' (first | (first | refine Ya ?_ | refine Yb ?_ | refine Yc ?_ | refine Yd ?_ | refine Ye ?_ | refine Yf ?_ | refine Yg ?_ | refine Yh ?_ | refine Yi ?_ | refine Yj ?_ | refine Yk ?_ | refine Yl ?_ | refine Ym ?_ | refine Yn ?_ | refine Yo ?_ | refine Yp (h := ?_) | refine Yq ?_ | refine Yr ?_ | refine Ys ?_ | refine Zr hc (hk := ?_) | refine Zd hc (hk := ?_) | (refine Zc (ht := fun hb => ?_) (hf := fun hb => ?_) <;> (try simp at hb)) | fail) | (first | refine Zw hc (hf := by first | exact h1 | exact h4) (hk := ?_) | refine Zq hc (hf := by first | exact h1 | exact h4) (hk := ?_) | refine Zo hc (hk := ?_) | refine Zu hc (hk := ?_) | refine Ze hc (hk := ?_) | refine Zn hc (hk := ?_) | fail))
    all_goals try contradiction
    all_goals try (exfalso; omega)
    · rw [if_pos hb] at hst
      have hb0 : (y.2 : Int) ≠ 0 := by omega
      have hEE : urgE L t n = y.2 := by rw [hE, hA, hst, if_pos hb0]
      rw [hEE, if_pos hb0]
      (refine Zl hc (hr := ?_))
      simp
    · rename_i g1
      rw [if_neg (fun h => h g1), if_pos hb] at hst
      have hEE : urgE L t n = e := by rw [hE, hA, hst, if_pos hb]
      rw [hEE, if_pos hb]
      (refine Zl hc (hr := ?_))
      simp
    · rename_i g1 g2
      rw [if_neg (fun h => h g1), if_neg (fun h => h g2), if_pos hb] at hst
      have hEE : urgE L t n = 8 := by rw [hE, hA, hst, if_pos (by decide)]
      rw [hEE, if_pos (by decide)]
      (refine Zl hc (hr := ?_))
      simp
    · rename_i g1 g2
      rw [if_neg (fun h => h g1), if_neg (fun h => h g2), if_neg (fun h => by have := hb h.1; omega)] at hst
      exact ⟨j + 1, ⟨by omega, by rw [hA, hst]⟩, by omega, run_back [0, 1, 2, 21, 22, 23] [] (by simp; exact Gives.mk) (by simp; exact Gives.mk) (by simp)⟩
  rw [if_neg hlt] at hst
  rw [hA, hst, if_neg (fun h => h rfl)] at hE
  have hwE : wtcE L t = 0 := by unfold wtcE; rw [if_neg hfew, hA, hst]
  clear hst hA hk hv
  by_cases hr : decide (okM t) = false ∨ decide (0 ≤ n ∧ n ≤ 300) = false
  · rw [if_pos hr] at hE
    rw [hE, if_pos (by decide)]
    have e1 : decide (okM t) = decide (0 ≤ t ∧ t ≤ 253402300799) := rfl
    rw [e1] at hr
    generalize decide (0 ≤ t ∧ t ≤ 253402300799) = w1 at h2 hr
    generalize decide (0 ≤ n ∧ n ≤ 300) = w2 at h3 hr
    repeat' (first | (first | refine Ya ?_ | refine Yb ?_ | refine Yc ?_ | refine Yd ?_ | refine Ye ?_ | refine Yf ?_ | refine Yg ?_ | refine Yh ?_ | refine Yi ?_ | refine Yj ?_ | refine Yk ?_ | refine Yl ?_ | refine Ym ?_ | refine Yn ?_ | refine Yo ?_ | refine Yp (h := ?_) | refine Yq ?_ | refine Yr ?_ | refine Ys ?_ | refine Zr hc (hk := ?_) | refine Zd hc (hk := ?_) | (refine Zc (ht := fun hb => ?_) (hf := fun hb => ?_) <;> (try simp at hb)) | fail) | (first | refine Zw hc (hf := by first | exact h2 | exact h3) (hk := ?_) | refine Zq hc (hf := by first | exact h2 | exact h3) (hk := ?_) | refine Zo hc (hk := ?_) | refine Zu hc (hk := ?_) | refine Ze hc (hk := ?_) | refine Zn hc (hk := ?_) | fail))
    all_goals try contradiction
    all_goals try (exfalso; omega)
    all_goals try (exfalso; simp_all; done)
    (refine Zl hc (hr := ?_))
    simp
  rw [if_neg hr] at hE
  rw [hE, if_neg (by decide)]
  simp only [not_or, decide_eq_false_iff_not, Classical.not_not] at hr
  obtain ⟨ht, n0, n1⟩ := hr
  have ok := wtc_good hwE
  have hlts := urg_lts ok ht
  rw [decide_eq_true (show 0 ≤ t ∧ t ≤ 253402300799 from ht)] at h2
  rw [decide_eq_true ⟨n0, n1⟩] at h3
  unfold urgX
  repeat' (first | (first | refine Ya ?_ | refine Yb ?_ | refine Yc ?_ | refine Yd ?_ | refine Ye ?_ | refine Yf ?_ | refine Yg ?_ | refine Yh ?_ | refine Yi ?_ | refine Yj ?_ | refine Yk ?_ | refine Yl ?_ | refine Ym ?_ | refine Yn ?_ | refine Yo ?_ | refine Yp (h := ?_) | refine Yq ?_ | refine Yr ?_ | refine Ys ?_ | refine Zr hc (hk := ?_) | refine Zd hc (hk := ?_) | (refine Zc (ht := fun hb => ?_) (hf := fun hb => ?_) <;> (try simp at hb)) | fail) | (first | refine Zw hc (hf := by first | exact h2 | exact h3) (hk := ?_) | refine Zq hc (hf := by first | exact h2 | exact h3) (hk := ?_) | refine Zo hc (hk := ?_) | refine Zu hc (hk := ?_) | refine Ze hc (hk := ?_) | refine Zn hc (hk := ?_) | fail))
  all_goals try contradiction
  all_goals try (exfalso; omega)
  refine ewp_loop (fun x : Nat × List Int => ⟨[(0, .d (wtcSl L)), (1, .d (int t)), (2, .d (int n)), (14, .os 40001 x.1), (67, .d (wtcSl L)), (68, .d (int L.length)), (69, .d (int x.1))], [(40001, .own 3 1 (true, [int 0]) (x.2.map fun y => [int y]))]⟩)
    (fun x => x.1 ≤ L.length ∧ x.2 = srt (urgL L t) (rng x.1)) (fun x => L.length - x.1) (0, []) ⟨Nat.zero_le _, srt_nil.symm⟩ (run_keepB [(14, none, 40001, 3, [int 0])] [0, 1, 2, 14, 67, 68, 69] [40001] (by simp; exact Gives.mk) (by simp; exact Gives.mk) (by simp; exact Gives.mk)) ?_
  rintro ⟨i, X⟩ ⟨hi, hX⟩
  simp only at hi hX ⊢
  have hXl : X.length = i := by rw [hX, srt_length, rng_len]
  by_cases hlt2 : i < L.length
  rotate_left
  · obtain rfl : i = L.length := by omega
    change X = srt (urgL L t) ((List.range L.length).map fun (i : Nat) => (i : Int)) at hX
    rw [← hX]
    repeat' (first | (first | refine Ya ?_ | refine Yb ?_ | refine Yc ?_ | refine Yd ?_ | refine Ye ?_ | refine Yf ?_ | refine Yg ?_ | refine Yh ?_ | refine Yi ?_ | refine Yj ?_ | refine Yk ?_ | refine Yl ?_ | refine Ym ?_ | refine Yn ?_ | refine Yo ?_ | refine Yp (h := ?_) | refine Yq ?_ | refine Yr ?_ | refine Ys ?_ | refine Zr hc (hk := ?_) | refine Zd hc (hk := ?_) | (refine Zc (ht := fun hb => ?_) (hf := fun hb => ?_) <;> (try simp at hb)) | fail) | (first | refine Zo hc (hk := ?_) | refine Zu hc (hk := ?_) | refine Ze hc (hk := ?_) | fail))
    all_goals try contradiction
    all_goals try (exfalso; omega)
    obtain ⟨m, rfl⟩ : ∃ m : Nat, n = m := ⟨n.toNat, by omega⟩
    by_cases hmn : L.length < m
    · have e : (min (m : Int) (L.length : Int)).toNat = X.length := by omega
      rw [e]
      have hXl2 : L.length ≤ X.length := by omega
      have hmn2 : (L.length : Int) < (m : Int) := by omega
      (refine run_leave hc (by simp [hmn, hmn2, hXl2]; exact Gives.mk) ?_)
      simp [hXl]
    · have e : (min (m : Int) (L.length : Int)).toNat = m := by omega
      rw [e]
      have hXl2 : m ≤ X.length := by omega
      have hmn2 : ¬ (L.length : Int) < (m : Int) := by omega
      (refine run_leave hc (by simp [hmn, hmn2, hXl2]; exact Gives.mk) ?_)
      simp
  have hXs : Srt (urgL L t) X := by
    rw [hX]
    exact srt_srt hlts ((rng_inc i).imp fun h e => by omega)
  have hXm : ∀ x ∈ X, 0 ≤ x ∧ x < i := fun x hx => by rw [hX, srt_mem] at hx; exact rng_mem hx
  have hnew : ∀ k, k ≤ X.length → (0 < k → urgL L t (X[k - 1]?.getD 0) i = true) → (k < X.length → urgL L t i (X[k]?.getD 0) = true) → X.take k ++ (i : Int) :: X.drop k = srt (urgL L t) (rng (i + 1)) := fun k k1 k2 k3 => by
    rw [put_last hlts hXs k1 k2 k3, rng_next]
    refine srt_of_perm hlts ?_ ?_
    · refine List.nodup_append.2 ⟨Srt.nodup hlts hXs, by simp, fun y hy z hz e => ?_⟩
      obtain rfl : z = (i : Int) := by simpa using hz
      have := (hXm y hy).2
      omega
    · rw [hX]
      exact List.Perm.append_right _ (srt_perm _)
  have hfew2 := ok.few
  clear hX h2 h3 hE
  repeat' (first | (first | refine Ya ?_ | refine Yb ?_ | refine Yc ?_ | refine Yd ?_ | refine Ye ?_ | refine Yf ?_ | refine Yg ?_ | refine Yh ?_ | refine Yi ?_ | refine Yj ?_ | refine Yk ?_ | refine Yl ?_ | refine Ym ?_ | refine Yn ?_ | refine Yo ?_ | refine Yp (h := ?_) | refine Yq ?_ | refine Yr ?_ | refine Ys ?_ | refine Zr hc (hk := ?_) | refine Zd hc (hk := ?_) | (refine Zc (ht := fun hb => ?_) (hf := fun hb => ?_) <;> (try simp at hb)) | fail) | (first | refine Zo hc (hk := ?_) | refine Zu hc (hk := ?_) | refine Ze hc (hk := ?_) | fail))
  all_goals try contradiction
  all_goals try (exfalso; omega)
  refine ewp_loop (fun k : Nat => ⟨[(0, .d (wtcSl L)), (1, .d (int t)), (2, .d (int n)), (14, .os 40001 i), (15, .d (int i)), (16, .bp 16 0), (17, .d (int k)), (67, .d (wtcSl L)), (68, .d (int L.length)), (69, .d (int i))], [(16, .box 139 [.d (str (wtcAt L i).1), .d (visSl (wtcAt L i).2)]), (40001, .own 3 1 (true, [int 0]) (X.map fun y => [int y]))]⟩)
    (fun k => k ≤ i ∧ (k < X.length → urgL L t i (X[k]?.getD 0) = true)) (fun k => k) i ⟨Nat.le_refl _, fun h => by omega⟩ (run_keep [0, 1, 2, 14, 15, 16, 17, 67, 68, 69] [16, 40001] (by simp; exact Gives.mk) (by simp; exact Gives.mk)) ?_
  rintro k ⟨hk1, hk2⟩
  have hIn := insInt_ok X i k (by omega) (by omega)
  rw [hXl] at hIn
  by_cases hk0 : 0 < k
  rotate_left
  · have hN := hnew k (by omega) (fun h => absurd h hk0) hk2
    rw [hN] at hIn
    generalize hY : srt (urgL L t) (rng (i + 1)) = Y at *
    repeat' (first | (first | refine Ya ?_ | refine Yb ?_ | refine Yc ?_ | refine Yd ?_ | refine Ye ?_ | refine Yf ?_ | refine Yg ?_ | refine Yh ?_ | refine Yi ?_ | refine Yj ?_ | refine Yk ?_ | refine Yl ?_ | refine Ym ?_ | refine Yn ?_ | refine Yo ?_ | refine Yp (h := ?_) | refine Yq ?_ | refine Yr ?_ | refine Ys ?_ | refine Zr hc (hk := ?_) | refine Zd hc (hk := ?_) | (refine Zc (ht := fun hb => ?_) (hf := fun hb => ?_) <;> (try simp at hb)) | fail) | (first | refine run_callW hc (by simp; exact Gives.mk) (by simp; exact Gives.mk) (by simp; exact Gives.mk) (by simp; exact Gives.mk) (by simp; exact Gives.mk) (fun _ => by first | exact (show FnOk _ _ _ (tru true) from by exfalso; simp_all; done)) (by simp) (by simp) ?_ | refine run_callQ hc (by simp; exact Gives.mk) (by simp; exact Gives.mk) (by simp; exact Gives.mk) (by simp; exact Gives.mk) (by simp; exact Gives.mk) (fun _ => by first | exact (show FnOk _ _ _ (tru true) from by exfalso; simp_all; done)) (by simp) (by simp) ?_ | refine run_ops hc (by simp; first | exact Ends.go | exact Ends.halt) (by decide) (by first | exact True.intro | omega | assumption | (simp; done) | (simp; omega) | (simp at *; omega)) ?_ | refine run_quiet hc (by simp; first | exact Ends.go | exact Ends.halt) (by decide) (by first | exact True.intro | omega | assumption | (simp; done) | (simp; omega) | (simp at *; omega)) ?_ | refine run_regionW hc (by simp; exact Ends.halt) (by first | exact True.intro | omega | assumption | (simp; done) | (simp; omega) | (simp at *; omega)) ?_ | refine run_drawN hc (by kernel_rfl) (by decide) (by kernel_rfl) (by simp; exact Ends.halt) (by first | exact True.intro | omega | assumption | (simp; done) | (simp; omega) | (simp at *; omega)) ?_ | fail) | ((first | refine run_callM ([(50001, 40001), (50002, 96)]) (hIn) hc (by simp; exact Gives.mk) (by simp; exact Gives.mk) (by simp; exact Gives.mk) (by simp; exact Gives.mk) (by simp; exact Gives.mk) rfl (by simp; exact Gives.mk) (by simp; exact Gives.mk) rfl (by simp) (by simp) (by simp; exact Gives.mk) (by simp; exact Gives.mk) ?_ | fail)))
    all_goals try contradiction
    all_goals try (exfalso; omega)
    exact ⟨(i + 1, Y), ⟨by simp only; omega, hY.symm⟩, by simp only; omega, run_back [0, 1, 2, 14, 67, 68, 69] [40001] (by simp; exact Gives.mk) (by simp; exact Gives.mk) (by simp)⟩
  have hmem := hXm _ (mem_at (A := X) (i := k - 1) (by omega))
  obtain ⟨yn, hyn⟩ : ∃ yn : Nat, X[k - 1]?.getD 0 = (yn : Int) := ⟨(X[k - 1]?.getD 0).toNat, by omega⟩
  have hyl : yn < i := by omega
  have hB := before_ok (wtcAt L i) (wtcAt L yn) t (visOk_of ok ht i) (visOk_of ok ht yn)
  rw [bef_lt L t i yn (visOk_of ok ht i) (visOk_of ok ht yn)] at hB
  have hl1 := urgL_later (L := L) (t := t) (x := (yn : Int)) (y := (i : Int)) (by omega)
  have hl2 : urgLt L t i yn = false → urgL L t yn i = true := fun h => by
    unfold urgL
    rw [h]
    simp
    exact .inr (by omega)
  have hN := fun h => hnew k (by omega) (fun _ => h) hk2
  rw [hyn] at hN
  generalize urgLt L t i yn = z at hB hl1 hl2
  have hyL : yn < L.length := by omega
  cases z with
  | true =>
    repeat' (first | (first | refine ewp_seq ?_ | refine run_region hc (by simp [hyn]; exact Ends.go) (by first | exact True.intro | omega | assumption | (simp; done) | (simp; omega) | (simp at *; omega)) ?_ | refine run_draw hc (by kernel_rfl) (by kernel_rfl) (by simp [hyn]; exact Ends.go) (by first | exact True.intro | omega | assumption | (simp; done) | (simp; omega) | (simp at *; omega)) ?_ | refine ewp_scope ?_ | refine scopeQ_normal ?_ | refine scopeQ_ret ?_ | refine scopeQ_exit ?_ | refine ewp_skip ?_ | refine ewp_block ?_ | refine ewp_exit ?_ | refine ewp_label ?_ | refine thenQ_normal ?_ | refine thenQ_ret ?_ | refine thenQ_exit ?_ | refine blockQ_normal ?_ | refine blockQ_ret ?_ | refine blockQ_here ?_ | refine blockQ_there (by decide) ?_ | refine ewp_ret ?_ | refine opsW_nil ?_ | refine quietW_nil ?_ | (refine run_cond (by simp [hyn]; exact Gives.mk) (fun hb => ?_) (fun hb => ?_) <;> (try simp at hb)) | fail) | (first | refine run_callW hc (by simp [hyn]; exact Gives.mk) (by simp [hyn]; exact Gives.mk) (by simp [hyn]; exact Gives.mk) (by simp [hyn]; exact Gives.mk) (by simp [hyn]; exact Gives.mk) (fun _ => by first | exact hB) (by simp) (by simp) ?_ | refine run_callQ hc (by simp [hyn]; exact Gives.mk) (by simp [hyn]; exact Gives.mk) (by simp [hyn]; exact Gives.mk) (by simp [hyn]; exact Gives.mk) (by simp [hyn]; exact Gives.mk) (fun _ => by first | exact hB) (by simp) (by simp) ?_ | refine run_ops hc (by simp [hyn]; first | exact Ends.go | exact Ends.halt) (by decide) (by first | exact True.intro | omega | assumption | (simp; done) | (simp; omega) | (simp at *; omega)) ?_ | refine run_quiet hc (by simp [hyn]; first | exact Ends.go | exact Ends.halt) (by decide) (by first | exact True.intro | omega | assumption | (simp; done) | (simp; omega) | (simp at *; omega)) ?_ | refine run_regionW hc (by simp [hyn]; exact Ends.halt) (by first | exact True.intro | omega | assumption | (simp; done) | (simp; omega) | (simp at *; omega)) ?_ | refine run_drawN hc (by kernel_rfl) (by decide) (by kernel_rfl) (by simp [hyn]; exact Ends.halt) (by first | exact True.intro | omega | assumption | (simp; done) | (simp; omega) | (simp at *; omega)) ?_ | fail))
    all_goals try contradiction
    all_goals try (exfalso; omega)
    refine ⟨k - 1, ⟨by omega, fun _ => ?_⟩, by omega, run_back [0, 1, 2, 14, 15, 16, 17, 67, 68, 69] [16, 40001] (by simp; exact Gives.mk) (by simp; exact Gives.mk) (by simp; omega)⟩
    rw [hyn]
    exact hl1
  | false =>
    have hN := hN (hl2 rfl)
    rw [hN] at hIn
    generalize hY : srt (urgL L t) (rng (i + 1)) = Y at *
    repeat' (first | (first | refine ewp_seq ?_ | refine run_region hc (by simp [hyn]; exact Ends.go) (by first | exact True.intro | omega | assumption | (simp; done) | (simp; omega) | (simp at *; omega)) ?_ | refine run_draw hc (by kernel_rfl) (by kernel_rfl) (by simp [hyn]; exact Ends.go) (by first | exact True.intro | omega | assumption | (simp; done) | (simp; omega) | (simp at *; omega)) ?_ | refine ewp_scope ?_ | refine scopeQ_normal ?_ | refine scopeQ_ret ?_ | refine scopeQ_exit ?_ | refine ewp_skip ?_ | refine ewp_block ?_ | refine ewp_exit ?_ | refine ewp_label ?_ | refine thenQ_normal ?_ | refine thenQ_ret ?_ | refine thenQ_exit ?_ | refine blockQ_normal ?_ | refine blockQ_ret ?_ | refine blockQ_here ?_ | refine blockQ_there (by decide) ?_ | refine ewp_ret ?_ | refine opsW_nil ?_ | refine quietW_nil ?_ | (refine run_cond (by simp [hyn]; exact Gives.mk) (fun hb => ?_) (fun hb => ?_) <;> (try simp at hb)) | fail) | (first | refine run_callW hc (by simp [hyn]; exact Gives.mk) (by simp [hyn]; exact Gives.mk) (by simp [hyn]; exact Gives.mk) (by simp [hyn]; exact Gives.mk) (by simp [hyn]; exact Gives.mk) (fun _ => by first | exact hB) (by simp) (by simp) ?_ | refine run_callQ hc (by simp [hyn]; exact Gives.mk) (by simp [hyn]; exact Gives.mk) (by simp [hyn]; exact Gives.mk) (by simp [hyn]; exact Gives.mk) (by simp [hyn]; exact Gives.mk) (fun _ => by first | exact hB) (by simp) (by simp) ?_ | refine run_ops hc (by simp [hyn]; first | exact Ends.go | exact Ends.halt) (by decide) (by first | exact True.intro | omega | assumption | (simp; done) | (simp; omega) | (simp at *; omega)) ?_ | refine run_quiet hc (by simp [hyn]; first | exact Ends.go | exact Ends.halt) (by decide) (by first | exact True.intro | omega | assumption | (simp; done) | (simp; omega) | (simp at *; omega)) ?_ | refine run_regionW hc (by simp [hyn]; exact Ends.halt) (by first | exact True.intro | omega | assumption | (simp; done) | (simp; omega) | (simp at *; omega)) ?_ | refine run_drawN hc (by kernel_rfl) (by decide) (by kernel_rfl) (by simp [hyn]; exact Ends.halt) (by first | exact True.intro | omega | assumption | (simp; done) | (simp; omega) | (simp at *; omega)) ?_ | fail) | ((first | refine run_callM ([(50001, 40001), (50002, 96)]) (hIn) hc (by simp [hyn]; exact Gives.mk) (by simp [hyn]; exact Gives.mk) (by simp [hyn]; exact Gives.mk) (by simp [hyn]; exact Gives.mk) (by simp [hyn]; exact Gives.mk) rfl (by simp [hyn]; exact Gives.mk) (by simp [hyn]; exact Gives.mk) rfl (by simp) (by simp) (by simp [hyn]; exact Gives.mk) (by simp [hyn]; exact Gives.mk) ?_ | fail)))
    all_goals try contradiction
    all_goals try (exfalso; omega)
    exact ⟨(i + 1, Y), ⟨by simp only; omega, hY.symm⟩, by simp only; omega, run_back [0, 1, 2, 14, 67, 68, 69] [40001] (by simp; exact Gives.mk) (by simp; exact Gives.mk) (by simp)⟩
theorem eqCut_ok (X : List Int) (m : Nat) (hm : m ≤ 300) : FnOk Tryz.prog 26 [cutSl X m, cutSl X m] (tru true) := by
  refine fnOk Tryz.func26 rfl (by kernel_rfl) Tryz.ntmps26 _ rfl (by simp) fun C hc => ?_
  repeat' (first | (first | refine Ya ?_ | refine Yb ?_ | refine Yc ?_ | refine Yd ?_ | refine Ye ?_ | refine Yf ?_ | refine Yg ?_ | refine Yh ?_ | refine Yi ?_ | refine Yj ?_ | refine Yk ?_ | refine Yl ?_ | refine Ym ?_ | refine Yn ?_ | refine Yo ?_ | refine Yp (h := ?_) | refine Yq ?_ | refine Yr ?_ | refine Ys ?_ | refine Zr hc (hk := ?_) | refine Zd hc (hk := ?_) | (refine Zc (ht := fun hb => ?_) (hf := fun hb => ?_) <;> (try simp at hb)) | fail) | (first | refine Zo hc (hk := ?_) | refine Zu hc (hk := ?_) | refine Ze hc (hk := ?_) | refine Zn hc (hk := ?_) | fail))
  all_goals try contradiction
  refine ewp_loop (fun j : Nat => ⟨[(0, .d (cutSl X m)), (1, .d (cutSl X m)), (12, .d (int m)), (13, .d (int j))], []⟩) (fun j => j ≤ m) (fun j => m - j) 0 (Nat.zero_le _) (run_keep [0, 1, 12, 13] [] (by simp; exact Gives.mk) (by simp; exact Gives.mk)) ?_
  intro j hj
  repeat' (first | (first | refine Ya ?_ | refine Yb ?_ | refine Yc ?_ | refine Yd ?_ | refine Ye ?_ | refine Yf ?_ | refine Yg ?_ | refine Yh ?_ | refine Yi ?_ | refine Yj ?_ | refine Yk ?_ | refine Yl ?_ | refine Ym ?_ | refine Yn ?_ | refine Yo ?_ | refine Yp (h := ?_) | refine Yq ?_ | refine Yr ?_ | refine Ys ?_ | refine Zr hc (hk := ?_) | refine Zd hc (hk := ?_) | (refine Zc (ht := fun hb => ?_) (hf := fun hb => ?_) <;> (try simp at hb)) | fail) | (first | refine Zo hc (hk := ?_) | refine Zu hc (hk := ?_) | refine Ze hc (hk := ?_) | refine Zn hc (hk := ?_) | fail))
  all_goals try contradiction
  · exact ⟨j + 1, by omega, by omega, run_back [0, 1, 12, 13] [] (by simp; exact Gives.mk) (by simp; exact Gives.mk) (by simp)⟩
  · (refine Zl hc (hr := ?_))
    simp
theorem eqIntsNo2_ok : FnOk Tryz.prog 26 [.lit (.slice none 0 0), .lit (.slice none 0 0)] (tru true) := by
  refine fnOk Tryz.func26 rfl (by kernel_rfl) Tryz.ntmps26 _ rfl (by simp) fun C hc => ?_
  repeat' (first | (first | refine Ya ?_ | refine Yb ?_ | refine Yc ?_ | refine Yd ?_ | refine Ye ?_ | refine Yf ?_ | refine Yg ?_ | refine Yh ?_ | refine Yi ?_ | refine Yj ?_ | refine Yk ?_ | refine Yl ?_ | refine Ym ?_ | refine Yn ?_ | refine Yo ?_ | refine Yp (h := ?_) | refine Yq ?_ | refine Yr ?_ | refine Ys ?_ | refine Zr hc (hk := ?_) | refine Zd hc (hk := ?_) | (refine Zc (ht := fun hb => ?_) (hf := fun hb => ?_) <;> (try simp at hb)) | fail) | (first | refine Zo hc (hk := ?_) | refine Zu hc (hk := ?_) | refine Ze hc (hk := ?_) | refine Zn hc (hk := ?_) | fail))
  all_goals try contradiction
  refine ewp_loop (fun _ : Unit => ⟨[(12, .d (int 0)), (13, .d (int 0))], []⟩) (fun _ => True) (fun _ => 0) () trivial (run_keep [12, 13] [] (by simp; exact Gives.mk) (by simp; exact Gives.mk)) ?_
  intro _ _
  repeat' (first | (first | refine Ya ?_ | refine Yb ?_ | refine Yc ?_ | refine Yd ?_ | refine Ye ?_ | refine Yf ?_ | refine Yg ?_ | refine Yh ?_ | refine Yi ?_ | refine Yj ?_ | refine Yk ?_ | refine Yl ?_ | refine Ym ?_ | refine Yn ?_ | refine Yo ?_ | refine Yp (h := ?_) | refine Yq ?_ | refine Yr ?_ | refine Ys ?_ | refine Zr hc (hk := ?_) | refine Zd hc (hk := ?_) | (refine Zc (ht := fun hb => ?_) (hf := fun hb => ?_) <;> (try simp at hb)) | fail) | (first | refine Zo hc (hk := ?_) | refine Zu hc (hk := ?_) | refine Ze hc (hk := ?_) | refine Zn hc (hk := ?_) | fail))
  all_goals try contradiction
  (refine Zl hc (hr := ?_))
  simp
theorem urgSpec_ok (L : List Wtc) (t n : Int) (hl : L.length ≤ 9223372036854775807) (hk : ∀ j, (wtcAt L j).1.length ≤ 9223372036854775807) (hv : ∀ j, (wtcAt L j).2.length ≤ 9223372036854775807) : FnOk Tryz.prog 10 [wtcSl L, int t, int n] (tru true) := by
  refine fnOk Tryz.func10 rfl (by kernel_rfl) Tryz.ntmps10 _ rfl (by simp) fun C hc => ?_
  have h1 := frUrgent_ok L t n hl hk hv
  have h2 := qUrgent_ok L t n hl hk hv
  unfold urgD at h1 h2
  have hN := eqIntsNo2_ok
  by_cases he : urgE L t n = 0
  · obtain ⟨_, ok, _, n0, n1⟩ := urgE_good he
    have hE := eqCut_ok (urgX L t) (min n L.length).toNat (by omega)
    rw [if_neg (fun h => h he)] at h1 h2
    generalize cutSl (urgX L t) (min n L.length).toNat = X at h1 h2 hE
    repeat' (first | (first | refine Ya ?_ | refine Yb ?_ | refine Yc ?_ | refine Yd ?_ | refine Ye ?_ | refine Yf ?_ | refine Yg ?_ | refine Yh ?_ | refine Yi ?_ | refine Yj ?_ | refine Yk ?_ | refine Yl ?_ | refine Ym ?_ | refine Yn ?_ | refine Yo ?_ | refine Yp (h := ?_) | refine Yq ?_ | refine Yr ?_ | refine Ys ?_ | refine Zr hc (hk := ?_) | refine Zd hc (hk := ?_) | (refine Zc (ht := fun hb => ?_) (hf := fun hb => ?_) <;> (try simp at hb)) | fail) | (first | refine Zw hc (hf := by first | exact h1 | exact h2 | exact hE | exact awake5_ok) (hk := ?_) | refine Zq hc (hf := by first | exact h1 | exact h2 | exact hE | exact awake5_ok) (hk := ?_) | refine Zo hc (hk := ?_) | refine Zu hc (hk := ?_) | refine Ze hc (hk := ?_) | refine Zn hc (hk := ?_) | fail))
    all_goals try contradiction
    all_goals (refine Zl hc (hr := ?_))
    all_goals simp
  · rw [if_pos he] at h1 h2
    generalize urgE L t n = e at h1 h2
    repeat' (first | (first | refine Ya ?_ | refine Yb ?_ | refine Yc ?_ | refine Yd ?_ | refine Ye ?_ | refine Yf ?_ | refine Yg ?_ | refine Yh ?_ | refine Yi ?_ | refine Yj ?_ | refine Yk ?_ | refine Yl ?_ | refine Ym ?_ | refine Yn ?_ | refine Yo ?_ | refine Yp (h := ?_) | refine Yq ?_ | refine Yr ?_ | refine Ys ?_ | refine Zr hc (hk := ?_) | refine Zd hc (hk := ?_) | (refine Zc (ht := fun hb => ?_) (hf := fun hb => ?_) <;> (try simp at hb)) | fail) | (first | refine Zw hc (hf := by first | exact h1 | exact h2 | exact hN | exact awake5_ok) (hk := ?_) | refine Zq hc (hf := by first | exact h1 | exact h2 | exact hN | exact awake5_ok) (hk := ?_) | refine Zo hc (hk := ?_) | refine Zu hc (hk := ?_) | refine Ze hc (hk := ?_) | refine Zn hc (hk := ?_) | fail))
    all_goals try contradiction
    all_goals (refine Zl hc (hr := ?_))
    all_goals simp
def WtcFits (x : Wtc) : Prop := x.1.length ≤ reachBytes ∧ x.2.length ≤ maxLen
theorem opn_viss : Opn Tryz.prog 82 (fun l : List Vis => [visSl l]) (fun l => l.length ≤ maxLen ∧ ∀ x ∈ l, inR .i64 x.1) :=
  (opn_slice ((0, false) : Vis) Tryz.underlying82 (n := 2) (by kernel_rfl) (by omega) opn_vis).map (fun l => l) (fun l _ => by simp [visSl]) (fun _ h => h)
theorem opn_wtc : Opn Tryz.prog 139 (fun x : Wtc => [str x.1, visSl x.2]) WtcFits :=
  (opn_flds (total := 2) Tryz.underlying139 rfl (by kernel_rfl) (flds_cons (n := 1) (by kernel_rfl) (by simp) opn_sW (flds_cons (n := 1) (by kernel_rfl) (by simp) opn_viss flds_nil))).map
    (fun x => ((x.1, x.2.1) : Wtc)) (fun _ _ => rfl) (fun _ h => ⟨h.1, h.2.1.1⟩)
def WtcsFit (l : List Wtc) : Prop := l.length ≤ maxLen ∧ ∀ x ∈ l, WtcFits x
theorem opnA_wtcs : OpnA Tryz.prog 62 wtcSl WtcsFit :=
  opnA_cell ((opn_slice (wtc0 : Wtc) Tryz.underlying62 (n := 2) (by kernel_rfl) (by omega) opn_wtc).map (fun l => l) (fun l _ => by simp [wtcAt, wtcSl]) (fun _ h => h)) (fun _ => rfl) (by kernel_rfl)
theorem urgSpecF_ok (L : List Wtc) (t n : Int) (hL : WtcsFit L) : FnOk Tryz.prog 10 [wtcSl L, int t, int n] (tru true) := by
  refine urgSpec_ok L t n (by have := hL.1; simp only [maxLen] at this; omega) (fun j => ?_) (fun j => ?_)
  · rcases Nat.lt_or_ge j L.length with hj | hj
    · simp only [wtcAt, List.getElem?_eq_getElem hj, Option.getD_some]
      have := (hL.2 _ (List.getElem_mem hj)).1
      simp only [reachBytes] at this
      omega
    · simp only [wtcAt, List.getElem?_eq_none hj]
      simp
  · rcases Nat.lt_or_ge j L.length with hj | hj
    · simp only [wtcAt, List.getElem?_eq_getElem hj, Option.getD_some]
      have := (hL.2 _ (List.getElem_mem hj)).2
      simp only [maxLen] at this
      omega
    · simp only [wtcAt, List.getElem?_eq_none hj]
      simp
end Go.Proofs.YtnainpghpjelcaaGreatDoor
