/-
  FRONTIER: numerals, and the text of a frontier is read as it (plain law).
-/
import Derived.Test.YtnainpghpjelcaaGreatDoorFnY
import Derived.Test.YtnainpghpjelcaaGreatDoorAdO
import Derived.Test.YtnainpghpjelcaaGreatDoorBld
import Derived.Test.YtnainpghpjelcaaGreatDoorFnD
set_option linter.unusedSimpArgs false
set_option linter.unusedVariables false
namespace Go.Proofs.YtnainpghpjelcaaGreatDoor
open Go.Lw Go.RowKit
set_option maxRecDepth 100000
set_option maxHeartbeats 2000000

/-! Numerals. -/
theorem digN_end (s : Bs) (c : UInt8) : digN (s ++ [c]) = 10 * digN s + (c.toNat - 48) := by simp [digN]
theorem dig_nat {k : Nat} (h : k < 10) : (UInt8.ofNat (48 + k)).toNat = 48 + k := by
  rw [UInt8.toNat_ofNat']
  omega
theorem dec_digN (u : Nat) : digN (Lib.decDigits u) = u := by
  induction u using Nat.strongRecOn with
  | _ u ih =>
    rw [Lib.decDigits]
    split
    · rename_i h
      simp [digN, dig_nat h]
      omega
    · rename_i h
      rw [digN_end, ih (u / 10) (by omega), dig_nat (Nat.mod_lt _ (by omega))]
      omega
theorem dec_all (u : Nat) : ∀ c ∈ Lib.decDigits u, 48 ≤ c.toNat ∧ c.toNat ≤ 57 := by
  induction u using Nat.strongRecOn with
  | _ u ih =>
    rw [Lib.decDigits]
    split
    · rename_i h
      intro c hc
      obtain rfl := List.mem_singleton.1 hc
      rw [dig_nat h]
      omega
    · rename_i h
      intro c hc
      rcases List.mem_append.1 hc with hc | hc
      · exact ih (u / 10) (by omega) c hc
      · obtain rfl := List.mem_singleton.1 hc
        have : u % 10 < 10 := Nat.mod_lt _ (by omega)
        rw [dig_nat this]
        omega
theorem dec_isDig (u : Nat) : (Lib.decDigits u).all isDig = true := List.all_eq_true.2 fun c hc => by
  have := dec_all u c hc
  simp [isDig, this.1, this.2]
theorem dec_pos (u : Nat) : 1 ≤ (Lib.decDigits u).length := by
  rw [Lib.decDigits]
  split <;> simp
theorem dec_le : ∀ (k u : Nat), u < 10 ^ (k + 1) → (Lib.decDigits u).length ≤ k + 1
  | 0, u, h => by
    rw [Lib.decDigits, dif_pos (by omega)]
    simp
  | k + 1, u, h => by
    rw [Lib.decDigits]
    split
    · simp
    · have := dec_le k (u / 10) (by rw [Nat.pow_succ] at h; omega)
      simp only [List.length_append, List.length_cons, List.length_nil]
      omega
theorem dec_head (u : Nat) : 1 ≤ u → ((Lib.decDigits u)[0]?.getD 0).toNat ≠ 48 := by
  induction u using Nat.strongRecOn with
  | _ u ih =>
    intro h1
    rw [Lib.decDigits]
    split
    · rename_i h
      simp [dig_nat h]
      omega
    · rename_i h
      have hl := dec_pos (u / 10)
      rw [List.getElem?_append_left (by omega)]
      exact ih (u / 10) (by omega) (by omega)
theorem dec_ok {u : Nat} (h : u < 10 ^ 12) : numOk (Lib.decDigits u) = true := by
  unfold numOk
  rw [decide_eq_true_iff]
  refine ⟨dec_pos u, dec_le 11 u h, dec_isDig u, ?_⟩
  rintro ⟨e1, e2⟩
  rcases Nat.eq_zero_or_pos u with rfl | h0
  · exact e2 (by rw [Lib.decDigits, dif_pos (by decide)]; rfl)
  · exact dec_head u h0 e1
theorem dec_val {u : Nat} (h : u < 10 ^ 12) : numV (Lib.decDigits u) = (u : Int) := by
  unfold numV
  rw [if_pos (dec_ok h), dec_digN]
/-- The numeral of a number. -/
def decI (n : Int) : Bs := Lib.decDigits n.toNat
theorem decI_ok {n : Int} (h0 : 0 ≤ n) (h : n < 10 ^ 12) : numOk (decI n) = true := dec_ok (by omega)
theorem decI_val {n : Int} (h0 : 0 ≤ n) (h : n < 10 ^ 12) : numV (decI n) = n := by
  unfold decI
  rw [dec_val (by omega)]
  omega
theorem decI_free {n : Int} {b : UInt8} (hb : b.toNat < 48) : b ∉ decI n := fun h => by
  have := (dec_all _ b h).1
  omega
/-! Keys have no blanks. -/
theorem key_33 {k : Bs} (h : (ofK k).2 = 0) : ∀ c ∈ k, 33 ≤ c.toNat := by
  rcases ofK_cases k with h1 | ⟨_, _, h3, h4, h5⟩
  · exact absurd h h1.1
  · have hw := write_33 ((chk_iff _).1 h3).1
    generalize (ofK k).1 = a at h3 h4 h5 hw
    have hwr : ∀ c, c ∈ a.scheme ∨ c ∈ a.host ∨ c ∈ pPart a ∨ c ∈ a.path ∨ c ∈ qPart a → 33 ≤ c.toNat := fun c hc => hw c (by
      unfold writeA behindA
      simp only [List.mem_append]
      rcases hc with h | h | h | h | h <;> simp [h])
    intro c hc
    rw [← h5] at hc
    unfold keyN at hc
    simp only [List.mem_append] at hc
    rcases hc with ((((hc | hc) | hc) | hc) | hc) | hc
    · by_cases e : c ∈ a.host
      · exact hwr c (.inr (.inl e))
      · by_cases e2 : c = 44
        · subst e2; decide
        · exact absurd hc (turn_free _ _ _ _ e e2)
    · exact hwr c (.inr (.inr (.inl hc)))
    · obtain rfl := List.mem_singleton.1 hc; decide
    · split at hc
      · obtain rfl := List.mem_singleton.1 hc; decide
      · cases hc
    · exact hwr c (.inr (.inr (.inr (.inl hc))))
    · exact hwr c (.inr (.inr (.inr (.inr hc))))
theorem free_33 {k : Bs} (h : ∀ c ∈ k, 33 ≤ c.toNat) {b : UInt8} (hb : b.toNat < 33) : b ∉ k := fun hm => by have := h b hm; omega
theorem ho_33 {s : Bs} (h : isHo s = true) : (∀ c ∈ s, 33 ≤ c.toNat) ∧ s.length ≤ 2000 ∧ s ≠ [] := by
  have one : ∀ e : Bs, hostC (s ++ e) = (s, 0) → (ofK (s ++ e)).2 = 0 := fun e he => by
    unfold hostC at he
    split at he
    · assumption
    · exact absurd (Prod.mk.inj he).2 (by assumption)
  have two : ∀ e : Bs, e.head? = some 41 → hostC (s ++ e) = (s, 0) → (∀ c ∈ s, 33 ≤ c.toNat) ∧ s.length ≤ 2000 ∧ s ≠ [] := fun e he1 he => by
    have h0 := one e he
    have h1 := key_33 h0
    refine ⟨fun c hc => h1 c (List.mem_append_left _ hc), ?_, ?_⟩
    · rcases ofK_cases (s ++ e) with h2 | ⟨_, h2, _⟩
      · exact absurd h0 h2.1
      · simp at h2; omega
    · rintro rfl
      rcases ofK_cases ([] ++ e) with h2 | ⟨_, _, h3, h4, h5⟩
      · exact absurd h0 h2.1
      · have hA := ((chk_iff _).1 h3).1
        have g := good_norm hA
        rw [h4] at g
        generalize (ofK ([] ++ e)).1 = a at h3 h4 h5 hA g
        have hf := turn_free a.host 46 44 41 g.h41 (by decide)
        have hl := turn_len a.host 46 44
        unfold keyN at h5
        generalize turnP a.host 46 44 = t at h5 hf hl
        cases t with
        | nil =>
          have hh := hA.host
          have e0 : a.host = [] := List.eq_nil_of_length_eq_zero (by simpa using hl.symm)
          rw [e0] at hh
          revert hh
          decide
        | cons c r =>
          have h6 := congrArg List.head? h5
          simp only [List.cons_append, List.head?_cons, List.nil_append, he1] at h6
          exact hf (by rw [Option.some.inj h6]; exact List.mem_cons_self)
  unfold isHo at h
  simp only [Bool.or_eq_true, decide_eq_true_eq] at h
  rcases h with h | h
  · exact two _ rfl h
  · exact two _ rfl h
/-! The text. -/
def lnW (x : Wnt) : Bs := Lib.join [sWant, decI x.2.1, decI x.2.2, x.1] [32]
def bzy (b : Bool) : Bs := if b = true then sBusy else sIdle
def lnH (x : Hst) : Bs := Lib.join ([sHost, x.1, decI x.2.1, bzy x.2.2.1] ++ x.2.2.2.map decI) [32]
def lnF (f : Frt) : Bs := Lib.join [sFrontier, decI f.budget, decI f.window] [32]
def txtF (f : Frt) : Bs := lnF f ++ 10 :: ((f.items.map fun x => lnW x ++ [10]).flatten ++ (f.hosts.map fun x => lnH x ++ [10]).flatten)
theorem bzy_free (x : Bool) {b : UInt8} (hb : b.toNat < 33) : b ∉ bzy x := by
  intro h
  unfold bzy at h
  have key : ∀ c ∈ sBusy ++ sIdle, 33 ≤ c.toNat := by decide
  have := key b (by split at h <;> simp only [List.mem_append] <;> simp_all)
  omega
theorem fix_free {l : Bs} (hl : (l.all fun c => decide (33 ≤ c.toNat)) = true) {b : UInt8} (hb : b.toNat < 33) : b ∉ l := fun h => by
  have := List.all_eq_true.1 hl b h
  simp at this
  omega
structure WntR (x : Wnt) : Prop where
  key : ∀ c ∈ x.1, 33 ≤ c.toNat
  ne : x.1 ≠ []
  rank : 0 ≤ x.2.1 ∧ x.2.1 < 10 ^ 12
  due : 0 ≤ x.2.2 ∧ x.2.2 < 10 ^ 12
structure HstR (x : Hst) : Prop where
  name : ∀ c ∈ x.1, 33 ≤ c.toNat
  ne : x.1 ≠ []
  free : 0 ≤ x.2.1 ∧ x.2.1 < 10 ^ 12
  starts : ∀ n ∈ x.2.2.2, 0 ≤ n ∧ n < 10 ^ 12
theorem wordsW {x : Wnt} (h : WntR x) {b : UInt8} (hb : b.toNat < 33) : ∀ y ∈ [sWant, decI x.2.1, decI x.2.2, x.1], b ∉ y := by
  intro y hy
  simp only [List.mem_cons, List.not_mem_nil, or_false] at hy
  rcases hy with rfl | rfl | rfl | rfl
  · exact fix_free (by decide) hb
  · exact decI_free (by omega)
  · exact decI_free (by omega)
  · exact free_33 h.key hb
theorem wordsH {x : Hst} (h : HstR x) {b : UInt8} (hb : b.toNat < 33) : ∀ y ∈ [sHost, x.1, decI x.2.1, bzy x.2.2.1] ++ x.2.2.2.map decI, b ∉ y := by
  intro y hy
  simp only [List.mem_append, List.mem_cons, List.not_mem_nil, or_false, List.mem_map] at hy
  rcases hy with (rfl | rfl | rfl | rfl) | ⟨n, _, rfl⟩
  · exact fix_free (by decide) hb
  · exact free_33 h.name hb
  · exact decI_free (by omega)
  · exact bzy_free _ hb
  · exact decI_free (by omega)
theorem join_free {L : List Bs} {b : UInt8} (h : ∀ y ∈ L, b ∉ y) (hb : b ≠ 32) : b ∉ Lib.join L [32] := fun hm => by
  rcases join_mem 32 L b hm with e | ⟨y, hy, hm⟩
  · exact hb e
  · exact h y hy hm
theorem lineW {f : Frt} {x : Wnt} (h : WntR x) (h0 : f.hosts = []) : lineC f false (Lib.split (lnW x) [32]) = some { f with items := f.items ++ [x] } := by
  unfold lnW
  rw [split_join 32 _ (by simp) (wordsW h (by decide))]
  unfold lineC
  have hcc : wat [sWant, decI x.2.1, decI x.2.2, x.1] 0 = sWant ∧ [sWant, decI x.2.1, decI x.2.2, x.1].length = 4 ∧ f.hosts.length = 0 := ⟨rfl, rfl, by rw [h0]; rfl⟩
  rw [if_neg (by decide), if_pos hcc]
  have e1 : wat [sWant, decI x.2.1, decI x.2.2, x.1] 1 = decI x.2.1 := rfl
  have e2 : wat [sWant, decI x.2.1, decI x.2.2, x.1] 2 = decI x.2.2 := rfl
  have e3 : wat [sWant, decI x.2.1, decI x.2.2, x.1] 3 = x.1 := rfl
  rw [e1, e2, e3, if_pos ⟨decI_ok h.rank.1 h.rank.2, decI_ok h.due.1 h.due.2, h.ne⟩, decI_val h.rank.1 h.rank.2, decI_val h.due.1 h.due.2]
theorem numsV_map {L : List Int} (h : ∀ n ∈ L, 0 ≤ n ∧ n < 10 ^ 12) (W : List Bs) : numsOk L.length (fun i => wat (L.map decI) i) = true ∧ numsV L.length (fun i => wat (L.map decI) i) = L := by
  have hat : ∀ i, i < L.length → wat (L.map decI) i = decI (L[i]?.getD 0) := fun i hi => by simp only [wat, List.getElem?_map, List.getElem?_eq_getElem hi, Option.map_some, Option.getD_some]
  constructor
  · unfold numsOk
    rw [List.all_eq_true]
    intro i hi
    have hi' := List.mem_range.1 hi
    show numOk (wat (L.map decI) i) = true
    rw [hat i hi', List.getElem?_eq_getElem hi']
    have := h _ (List.getElem_mem hi')
    exact decI_ok this.1 this.2
  · apply List.ext_getElem (by simp)
    intro i h1 h2
    have := h _ (List.getElem_mem h2)
    simp only [numsV, List.getElem_map, List.getElem_range]
    rw [hat i h2, List.getElem?_eq_getElem h2]
    exact decI_val this.1 this.2
theorem lineH {f : Frt} {x : Hst} (h : HstR x) : lineC f false (Lib.split (lnH x) [32]) = some { f with hosts := f.hosts ++ [x] } := by
  unfold lnH
  rw [split_join 32 _ (by simp) (wordsH h (by decide))]
  unfold lineC
  have e0 : wat ([sHost, x.1, decI x.2.1, bzy x.2.2.1] ++ x.2.2.2.map decI) 0 = sHost := rfl
  have e1 : wat ([sHost, x.1, decI x.2.1, bzy x.2.2.1] ++ x.2.2.2.map decI) 1 = x.1 := rfl
  have e2 : wat ([sHost, x.1, decI x.2.1, bzy x.2.2.1] ++ x.2.2.2.map decI) 2 = decI x.2.1 := rfl
  have e3 : wat ([sHost, x.1, decI x.2.1, bzy x.2.2.1] ++ x.2.2.2.map decI) 3 = bzy x.2.2.1 := rfl
  have e4 : (fun i => wat ([sHost, x.1, decI x.2.1, bzy x.2.2.1] ++ x.2.2.2.map decI) (4 + i)) = fun i => wat (x.2.2.2.map decI) i := by
    funext i
    simp only [wat]
    rw [List.getElem?_append_right (by simp), show 4 + i - [sHost, x.1, decI x.2.1, bzy x.2.2.1].length = i by simp]
  have e5 : ([sHost, x.1, decI x.2.1, bzy x.2.2.1] ++ x.2.2.2.map decI).length - 4 = x.2.2.2.length := by simp
  have e6 : 4 ≤ ([sHost, x.1, decI x.2.1, bzy x.2.2.1] ++ x.2.2.2.map decI).length := by simp
  obtain ⟨n1, n2⟩ := numsV_map h.starts []
  have hb : bzy x.2.2.1 = sBusy ∨ bzy x.2.2.1 = sIdle := by unfold bzy; split <;> simp
  have hd : decide (bzy x.2.2.1 = sBusy) = x.2.2.1 := by cases x.2.2.1 <;> rfl
  rw [if_neg (by decide), if_neg (fun e => by rw [e0] at e; exact absurd e.1 (by decide)), if_pos ⟨e0, e6⟩, e1, e2, e3, e4, e5, n1, n2, hd, if_pos ⟨decI_ok h.free.1 h.free.2, rfl, h.ne, hb⟩, decI_val h.free.1 h.free.2]
theorem go_line {f g : Frt} {i : Nat} {l r : Bs} (hi : i = 0 ∨ l ++ 10 :: r ≠ []) (h10 : (10 : UInt8) ∉ l) (hl : lineC f (decide (i = 0)) (Lib.split l [32]) = some g) : frReadGo f i (l ++ 10 :: r) = frReadGo g (i + 1) r := by
  rw [frReadGo, if_pos hi]
  have hc := cut_app 10 l r h10
  have h2 : (Lib.cut (l ++ 10 :: r) [10]).2.2 = true := by rw [hc]
  rw [dif_pos h2]
  simp only [hc, hl]
theorem go_items {f : Frt} (h0 : f.hosts = []) : ∀ (I : List Wnt) (J : List Wnt) (i : Nat) (r : Bs), (∀ x ∈ I, WntR x) → frReadGo { f with items := J } (i + 1) ((I.map fun x => lnW x ++ [10]).flatten ++ r) = frReadGo { f with items := J ++ I } (i + 1 + I.length) r
  | [], J, i, r, _ => by simp
  | x :: I, J, i, r, h => by
    have hx := h x List.mem_cons_self
    have hl := lineW (f := { f with items := J }) hx h0
    rw [List.map_cons, List.flatten_cons]
    simp only [List.append_assoc, List.singleton_append, List.cons_append, List.nil_append]
    rw [go_line (g := { f with items := J ++ [x] }) (.inr (by simp)) (show (10 : UInt8) ∉ lnW x from join_free (wordsW hx (by decide)) (by decide)) (by rw [decide_eq_false (by omega)]; exact hl)]
    have := go_items h0 I (J ++ [x]) (i + 1) r (fun y hy => h y (List.mem_cons_of_mem _ hy))
    rw [this]
    simp only [List.append_assoc, List.singleton_append, List.length_cons]
    rw [show i + 1 + 1 + I.length = i + 1 + (I.length + 1) by omega]
theorem go_hosts {f : Frt} : ∀ (H K : List Hst) (i : Nat), (∀ x ∈ H, HstR x) → frReadGo { f with hosts := K } (i + 1) (H.map fun x => lnH x ++ [10]).flatten = (some { f with hosts := K ++ H }, 0)
  | [], K, i, _ => by
    rw [frReadGo, if_neg (by simp)]
    simp
  | x :: H, K, i, h => by
    have hx := h x List.mem_cons_self
    have hl := lineH (f := { f with hosts := K }) hx
    rw [List.map_cons, List.flatten_cons]
    simp only [List.append_assoc, List.singleton_append, List.cons_append, List.nil_append]
    rw [go_line (g := { f with hosts := K ++ [x] }) (.inr (by simp)) (show (10 : UInt8) ∉ lnH x from join_free (wordsH hx (by decide)) (by decide)) (by rw [decide_eq_false (by omega)]; exact hl)]
    have := go_hosts (f := f) H (K ++ [x]) (i + 1) (fun y hy => h y (List.mem_cons_of_mem _ hy))
    rw [this]
    simp
/-- A frontier that is written is read. -/
theorem read_txt {f : Frt} (hb : 0 ≤ f.budget ∧ f.budget < 10 ^ 12) (hw : 0 ≤ f.window ∧ f.window < 10 ^ 12) (hI : ∀ x ∈ f.items, WntR x) (hH : ∀ x ∈ f.hosts, HstR x) : frReadGo fr0 0 (txtF f) = (some f, 0) := by
  have hwd : ∀ {b : UInt8}, b.toNat < 33 → ∀ y ∈ [sFrontier, decI f.budget, decI f.window], b ∉ y := by
    intro b hb y hy
    simp only [List.mem_cons, List.not_mem_nil, or_false] at hy
    rcases hy with rfl | rfl | rfl
    · exact fix_free (by decide) hb
    · exact decI_free (by omega)
    · exact decI_free (by omega)
  have hl : lineC fr0 (decide ((0 : Nat) = 0)) (Lib.split (lnF f) [32]) = some ⟨[], [], f.budget, f.window⟩ := by
    unfold lnF
    rw [split_join 32 _ (by simp) (hwd (by decide))]
    unfold lineC
    rw [if_pos (by decide)]
    have e1 : wat [sFrontier, decI f.budget, decI f.window] 1 = decI f.budget := rfl
    have e2 : wat [sFrontier, decI f.budget, decI f.window] 2 = decI f.window := rfl
    rw [e1, e2, if_pos ⟨rfl, rfl, decI_ok hb.1 hb.2, decI_ok hw.1 hw.2⟩, decI_val hb.1 hb.2, decI_val hw.1 hw.2]
  unfold txtF
  rw [go_line (.inl rfl) (show (10 : UInt8) ∉ lnF f from join_free (hwd (by decide)) (by decide)) hl]
  have h1 := go_items (f := ⟨[], [], f.budget, f.window⟩) rfl f.items [] 0 (f.hosts.map fun x => lnH x ++ [10]).flatten hI
  have h2 := go_hosts (f := ⟨f.items, [], f.budget, f.window⟩) f.hosts [] (0 + f.items.length) hH
  simp only [List.nil_append] at h1 h2
  rw [h1, show 0 + 1 + f.items.length = 0 + f.items.length + 1 by omega, h2]
end Go.Proofs.YtnainpghpjelcaaGreatDoor
/-
  FRONTIER: the text of a frontier, written (program). (WITH run_drawN.)
-/
set_option linter.unusedSimpArgs false
set_option linter.unusedVariables false
namespace Go.Proofs.YtnainpghpjelcaaGreatDoor
open Go.Lw Go.RowKit
set_option maxRecDepth 100000
set_option maxHeartbeats 2000000

theorem itoaI_ok (n : Int) (h0 : 0 ≤ n) (h1 : n < 10 ^ 12) : FnOk Tryz.prog 80 [int n] (str (decI n)) :=
  fnOk_litsB [.int .i64 n] (by kernel_rfl) fun w hs => by
    obtain ⟨t, fr, hcell⟩ := hs.2.2.2 1 (of_decide_eq_true (by kernel_rfl)) (by kernel_rfl)
    have hg : Tryz.prog.globalNamed "internal/strconv.uint64pow10" = some 1 := by kernel_rfl
    have ht : Lib.TabIs Tryz.prog w "internal/strconv.uint64pow10" .u64 Lib.pow10Tab := by
      unfold Lib.TabIs World.var?
      rw [hg]
      simp only [Option.bind_some, hcell]
      rfl
    refine (Tryz.strconv_Itoa n (by omega) (by omega) w ht).mono fun e w' ⟨he, k, os, hw⟩ => ⟨?_, ?_⟩
    · obtain ⟨m, rfl⟩ : ∃ m : Nat, n = m := ⟨n.toNat, by omega⟩
      rw [he, Lib.itoa_nonneg]; rfl
    · rw [hw]; exact Lib.below_grow _ w (Nat.le_refl _) k os
theorem decI_len {n : Int} (h1 : n < 10 ^ 12) : (decI n).length ≤ 12 := dec_le 11 n.toNat (by omega)
/-- The first lines, in the order in which they are written. -/
def tI (L : List Wnt) (j : Nat) : Bs := ((L.take j).map fun x => lnW x ++ [10]).flatten
def tH (L : List Hst) (j : Nat) : Bs := ((L.take j).map fun x => lnH x ++ [10]).flatten
def tS (l : List Int) (j : Nat) : Bs := ((l.take j).map fun n => 32 :: decI n).flatten
theorem lnF_eq (f : Frt) : lnF f = [102, 114, 111, 110, 116, 105, 101, 114, 32] ++ decI f.budget ++ [32] ++ decI f.window := by simp [lnF, Lib.join_cons, Lib.joinTail]
theorem lnW_eq (x : Wnt) : lnW x = [119, 97, 110, 116, 32] ++ decI x.2.1 ++ [32] ++ decI x.2.2 ++ [32] ++ x.1 := by simp [lnW, Lib.join_cons, Lib.joinTail]
theorem lnH_eq (x : Hst) : lnH x = [104, 111, 115, 116, 32] ++ x.1 ++ [32] ++ decI x.2.1 ++ [32] ++ bzy x.2.2.1 ++ tS x.2.2.2 x.2.2.2.length := by
  unfold tS
  rw [List.take_length]
  simp only [lnH, List.cons_append, List.nil_append, Lib.join_cons, Lib.joinTail, List.map_cons, List.flatten_cons, List.map_map]
  simp
  congr 1
theorem tI_next (L : List Wnt) {j : Nat} (h : j < L.length) : tI L (j + 1) = tI L j ++ ([119, 97, 110, 116, 32] ++ decI (wntAt L j).2.1 ++ [32] ++ decI (wntAt L j).2.2 ++ [32] ++ (wntAt L j).1 ++ [10]) := by
  unfold tI
  rw [List.take_add_one, List.map_append, List.flatten_append, List.getElem?_eq_getElem h]
  simp only [Option.toList_some, List.map_cons, List.map_nil, List.flatten_cons, List.flatten_nil, List.append_nil, lnW_eq]
  simp [wntAt, h]
theorem tH_next (L : List Hst) {j : Nat} (h : j < L.length) : tH L (j + 1) = tH L j ++ ([104, 111, 115, 116, 32] ++ (hstAt L j).1 ++ [32] ++ decI (hstAt L j).2.1 ++ [32] ++ bzy (hstAt L j).2.2.1) ++ tS (hstAt L j).2.2.2 (hstAt L j).2.2.2.length ++ [10] := by
  unfold tH
  rw [List.take_add_one, List.map_append, List.flatten_append, List.getElem?_eq_getElem h]
  simp only [Option.toList_some, List.map_cons, List.map_nil, List.flatten_cons, List.flatten_nil, List.append_nil, lnH_eq]
  simp [hstAt, h]
theorem tS_next (l : List Int) {j : Nat} (h : j < l.length) : tS l (j + 1) = tS l j ++ ([32] ++ decI (l[j]?.getD 0)) := by
  unfold tS
  rw [List.take_add_one, List.map_append, List.flatten_append, List.getElem?_eq_getElem h]
  simp
theorem txt_eq (f : Frt) : txtF f = lnF f ++ [10] ++ tI f.items f.items.length ++ tH f.hosts f.hosts.length := by simp [txtF, tI, tH]
/-- What a right frontier has, for its text. -/
structure FrTx (f : Frt) : Prop where
  budget : 0 ≤ f.budget ∧ f.budget < 10 ^ 12
  window : 0 ≤ f.window ∧ f.window < 10 ^ 12
  items : f.items.length ≤ 2000
  hosts : f.hosts.length ≤ 300
  wnt : ∀ j, j < f.items.length → WntR (wntAt f.items j) ∧ (wntAt f.items j).1.length ≤ 2000
  hst : ∀ j, j < f.hosts.length → HstR (hstAt f.hosts j) ∧ (hstAt f.hosts j).1.length ≤ 2000 ∧ (hstAt f.hosts j).2.2.2.length ≤ 200
theorem frTx_of {f : Frt} (hg : FrGood f) : FrTx f := by
  refine ⟨⟨by have := hg.budget; omega, by have := hg.budget; omega⟩, ⟨by have := hg.window; omega, by have := hg.window; omega⟩, hg.items, hg.hosts, fun j hj => ?_, fun j hj => ?_⟩
  · obtain ⟨h1, h2, h3⟩ := wnt_key (hg.wnt j hj)
    have hk := of_has h1
    refine ⟨⟨key_33 h1, (fun e => by rw [e] at hk; cases hk), ⟨h2.1, by omega⟩, ⟨h3.1, by omega⟩⟩, ?_⟩
    rcases ofK_cases (wntAt f.items j).1 with h4 | ⟨_, h4, _⟩
    · exact absurd h1 h4.1
    · exact h4
  · obtain ⟨h1, h2, h3⟩ := ho_33 (hg.isHo j hj)
    have h4 := hg.free j hj
    refine ⟨⟨h1, h3, ⟨h4.1, by omega⟩, fun n hn => ?_⟩, h2, hg.many j hj⟩
    obtain ⟨k, hk⟩ := List.mem_iff_getElem?.1 hn
    have hkl : k < (hstAt f.hosts j).2.2.2.length := (List.getElem?_eq_some_iff.1 hk).1
    have := (hg.starts j hj k hkl).1
    rw [hk] at this
    simp only [Option.getD_some, okM] at this
    omega
theorem tS_len (l : List Int) (h : ∀ n ∈ l, 0 ≤ n ∧ n < 10 ^ 12) : ∀ j, (tS l j).length ≤ j * 13
  | 0 => by simp [tS]
  | j + 1 => by
    have ih := tS_len l h j
    rcases Nat.lt_or_ge j l.length with hj | hj
    · rw [tS_next l hj, List.getElem?_eq_getElem hj]
      have := decI_len (h _ (List.getElem_mem hj)).2
      simp only [List.length_append, List.length_cons, List.length_nil, Option.getD_some]
      omega
    · unfold tS at ih ⊢
      rw [List.take_of_length_le (by omega)] at ih ⊢
      omega
theorem bzy_len (b : Bool) : (bzy b).length = 4 := by cases b <;> rfl
theorem tI_len {f : Frt} (h : FrTx f) : ∀ j, (tI f.items j).length ≤ j * 2040
  | 0 => by simp [tI]
  | j + 1 => by
    have ih := tI_len h j
    rcases Nat.lt_or_ge j f.items.length with hj | hj
    · rw [tI_next _ hj]
      obtain ⟨h1, h2⟩ := h.wnt j hj
      have := decI_len h1.rank.2
      have := decI_len h1.due.2
      simp only [List.length_append, List.length_cons, List.length_nil]
      omega
    · unfold tI at ih ⊢
      rw [List.take_of_length_le (by omega)] at ih ⊢
      omega
theorem tH_len {f : Frt} (h : FrTx f) : ∀ j, (tH f.hosts j).length ≤ j * 4640
  | 0 => by simp [tH]
  | j + 1 => by
    have ih := tH_len h j
    rcases Nat.lt_or_ge j f.hosts.length with hj | hj
    · rw [tH_next _ hj]
      obtain ⟨h1, h2, h3⟩ := h.hst j hj
      have := decI_len h1.free.2
      have := tS_len _ h1.starts (hstAt f.hosts j).2.2.2.length
      simp only [List.length_append, List.length_cons, List.length_nil, bzy_len]
      omega
    · unfold tH at ih ⊢
      rw [List.take_of_length_le (by omega)] at ih ⊢
      omega
/-- What Text hands back. -/
def txtD (f : Frt) : D := if frE f ≠ 0 then .tup [str [], int (frE f)] else if 5000000 < (txtF f).length then .tup [str [], int 2] else .tup [str (txtF f), int 0]
end Go.Proofs.YtnainpghpjelcaaGreatDoor
