/-
  ADDRESS, IN PLAIN LEAN: rows.
-/
import Derived.Test.YtpmfmjgnhdfakaaGreatDoorLibS
import Derived.Lib.IndexBytes
set_option linter.unusedSimpArgs false
set_option linter.unusedVariables false
namespace Go.Proofs.YtpmfmjgnhdfakaaGreatDoor
open Go.Lw
set_option maxRecDepth 100000
set_option maxHeartbeats 1000000

def isHexB (c : UInt8) : Bool := isDig c || (decide (97 ≤ c.toNat) && decide (c.toNat ≤ 102)) || (decide (65 ≤ c.toNat) && decide (c.toNat ≤ 70))
/-- Bytes that no row has. -/
def noRow : Bs := [34, 35, 60, 62, 92, 94, 123, 124, 125, 96]
def badB (c : UInt8) : Bool := decide (c.toNat < 33) || decide (126 < c.toNat) || noRow.contains c
/-- How far a row goes, without some bytes; whether it ends well. -/
def rowE (w : Bs) : Bs → Nat × Bool
  | [] => (0, true)
  | c :: r => if w.contains c = true then (0, true) else if badB c = true then (0, false)
    else if c = 37 then match r with
      | h :: k :: r2 => if isHexB h = true ∧ isHexB k = true then ((rowE w r2).1 + 3, (rowE w r2).2) else (0, false)
      | _ => (0, false)
    else ((rowE w r).1 + 1, (rowE w r).2)
theorem rowE_le (w : Bs) : ∀ s : Bs, (rowE w s).1 ≤ s.length
  | [] => by simp [rowE]
  | c :: r => by
    rw [rowE.eq_def]
    simp only
    split
    · simp
    · split
      · simp
      · split
        · match r with
          | [] => simp
          | [h] => simp
          | h :: k :: r2 =>
            simp only
            split
            · have := rowE_le w r2; simp; omega
            · simp
        · have := rowE_le w r; simp; omega
/-- A whole row, and behind it a byte at which it ends. -/
theorem rowE_app {w w2 : Bs} (hw : ∀ c, w2.contains c = true → w.contains c = true ∨ badB c = true) {r : Bs} (hr : r = [] ∨ ∃ c r', r = c :: r' ∧ w2.contains c = true) :
    ∀ p : Bs, rowE w p = (p.length, true) → rowE w2 (p ++ r) = (p.length, true)
  | [], _ => by
    rcases hr with rfl | ⟨c, r', rfl, hc⟩
    · rfl
    · rw [List.nil_append, rowE.eq_def]
      simp only
      rw [if_pos hc]; rfl
  | c :: p, h => by
    rw [rowE.eq_def] at h
    simp only at h
    by_cases h1 : w.contains c = true
    · rw [if_pos h1] at h; simp at h
    rw [if_neg h1] at h
    by_cases h2 : badB c = true
    · rw [if_pos h2] at h; simp at h
    rw [if_neg h2] at h
    have h3 : ¬ w2.contains c = true := fun e => (hw c e).elim h1 h2
    rw [List.cons_append, rowE.eq_def]
    simp only
    rw [if_neg h3, if_neg h2]
    by_cases h4 : c = 37
    · rw [if_pos h4] at h ⊢
      match p, h with
      | [], h => simp at h
      | [a], h => simp at h
      | a :: b :: p2, h =>
        simp only [List.cons_append] at h ⊢
        by_cases h5 : isHexB a = true ∧ isHexB b = true
        · rw [if_pos h5] at h ⊢
          have e1 := congrArg Prod.fst h
          have e2 := congrArg Prod.snd h
          simp only [List.length_cons] at e1 e2
          have ih := rowE_app hw hr p2 (Prod.ext (by simp only; omega) e2)
          rw [ih]; rfl
        · rw [if_neg h5] at h; simp at h
    · rw [if_neg h4] at h ⊢
      have e1 := congrArg Prod.fst h
      have e2 := congrArg Prod.snd h
      simp only [List.length_cons] at e1 e2
      have ih := rowE_app hw hr p (Prod.ext (by simp only; omega) e2)
      rw [ih]; rfl
/-- What was passed is a whole row; behind it is the end, or a byte at which it ends. -/
theorem rowE_take {w w2 : Bs} (hw : ∀ c, w.contains c = true → w2.contains c = true ∨ badB c = true) :
    ∀ (s : Bs) (n : Nat), rowE w2 s = (n, true) → rowE w (s.take n) = (n, true) ∧ (s.drop n = [] ∨ ∃ c r', s.drop n = c :: r' ∧ w2.contains c = true)
  | [], n, h => by
    cases h
    exact ⟨rfl, .inl rfl⟩
  | c :: r, n, h => by
    rw [rowE.eq_def] at h
    simp only at h
    by_cases h1 : w2.contains c = true
    · rw [if_pos h1] at h
      cases h
      exact ⟨rfl, .inr ⟨c, r, rfl, h1⟩⟩
    rw [if_neg h1] at h
    by_cases h2 : badB c = true
    · rw [if_pos h2] at h; cases h
    rw [if_neg h2] at h
    have h3 : ¬ w.contains c = true := fun e => (hw c e).elim h1 h2
    by_cases h4 : c = 37
    · rw [if_pos h4] at h
      match r, h with
      | [], h => cases h
      | [a], h => cases h
      | a :: b :: r2, h =>
        simp only at h
        by_cases h5 : isHexB a = true ∧ isHexB b = true
        · rw [if_pos h5] at h
          have e1 := congrArg Prod.fst h
          have e2 := congrArg Prod.snd h
          simp only at e1 e2
          obtain ⟨i1, i2⟩ := rowE_take hw r2 (rowE w2 r2).1 (Prod.ext rfl e2)
          subst e1
          refine ⟨?_, by simpa using i2⟩
          rw [List.take_succ_cons, List.take_succ_cons, List.take_succ_cons, rowE.eq_def]
          simp only
          rw [if_neg h3, if_neg h2, if_pos h4, if_pos h5, i1]
        · rw [if_neg h5] at h; cases h
    · rw [if_neg h4] at h
      have e1 := congrArg Prod.fst h
      have e2 := congrArg Prod.snd h
      simp only at e1 e2
      obtain ⟨i1, i2⟩ := rowE_take hw r (rowE w2 r).1 (Prod.ext rfl e2)
      subst e1
      refine ⟨?_, by simpa using i2⟩
      rw [List.take_succ_cons, rowE.eq_def]
      simp only
      rw [if_neg h3, if_neg h2, if_neg h4, i1]

/-! Hosts and ports. -/
def labB (c : UInt8) : Bool := isLet c || isDig c || decide (c.toNat = 45)
def isLab (s : Bs) : Bool := decide (1 ≤ s.length) && decide (s.length ≤ 63) && decide ((s[0]?.getD 0).toNat ≠ 45) && decide ((s[s.length - 1]?.getD 0).toNat ≠ 45) && s.all labB
def isHostB (s : Bs) : Bool := decide (s.length ≤ 253) && (Lib.split s [46]).all isLab
def hostB (c : UInt8) : Bool := isLet c || isDig c || decide (c.toNat = 45) || decide (c.toNat = 46)
theorem indexByte_at : ∀ {l : Bs} {c : UInt8} {i : Nat}, Lib.indexByte l c = i → l[i]? = some c ∧ ∀ x ∈ l.take i, x ≠ c
  | [], c, i, h => by simp [Lib.indexByte] at h
  | b :: l, c, i, h => by
    have hge := Lib.indexByte_ge l c
    simp only [Lib.indexByte] at h
    split at h
    · rename_i hb
      obtain rfl : i = 0 := by omega
      simp only [beq_iff_eq] at hb
      exact ⟨by rw [hb]; rfl, fun x hx => by simp at hx⟩
    · rename_i hb
      split at h
      · omega
      · rename_i hn
        simp at hn
        obtain ⟨j, rfl⟩ : ∃ j, i = j + 1 := ⟨i - 1, by omega⟩
        obtain ⟨h1, h2⟩ := indexByte_at (l := l) (c := c) (i := j) (by omega)
        refine ⟨h1, fun x hx => ?_⟩
        rw [List.take_succ_cons] at hx
        cases hx with
        | head => exact fun e => hb (by rw [e]; simp)
        | tail _ hx => exact h2 x hx
/-- Of a host each byte is a letter, a digit, a minus or a point. -/
theorem splitK_bytes (c0 : UInt8) (p : UInt8 → Bool) : ∀ (k : Nat) (s : Bs), (∀ x ∈ Lib.splitK [c0] 0 k s, x.all p = true) → s.all (fun c => p c || decide (c = c0)) = true := by
  intro k
  induction k with
  | zero =>
    intro s h
    have := h s (by simp [Lib.splitK])
    rw [List.all_eq_true] at this ⊢
    intro c hc
    simp [this c hc]
  | succ k ih =>
    intro s h
    rw [Lib.splitK] at h
    by_cases hi : (Lib.index s [c0] == -1) = true
    · rw [if_pos hi] at h
      have := h s (by simp)
      rw [List.all_eq_true] at this ⊢
      intro c hc
      simp [this c hc]
    · rw [if_neg hi] at h
      have hge := Lib.index_ge s [c0]
      have hne : Lib.index s [c0] ≠ -1 := fun e => hi (by rw [e]; rfl)
      obtain ⟨i, he⟩ : ∃ i : Nat, Lib.index s [c0] = i := ⟨(Lib.index s [c0]).toNat, by omega⟩
      rw [he] at h
      simp only [Int.toNat_natCast, Nat.add_zero, List.length_cons, List.length_nil, Nat.zero_add] at h
      have h1 := h (s.take i) (by simp)
      have h2 := ih (s.drop (i + 1)) (fun x hx => h x (List.mem_cons_of_mem _ hx))
      have hat : s[i]? = some c0 := (indexByte_at (by rw [← Lib.index_one]; exact he)).1
      have hlt := (List.getElem?_eq_some_iff.1 hat).1
      rw [← List.take_append_drop i s, List.drop_eq_getElem_cons hlt, List.all_append, List.all_cons]
      rw [List.getElem?_eq_getElem hlt] at hat
      rw [Option.some.inj hat, h2]
      rw [List.all_eq_true] at h1
      simp only [Bool.and_true, decide_true, Bool.or_true]
      rw [List.all_eq_true]
      intro c hc
      simp [h1 c hc]
theorem host_bytes {s : Bs} (h : isHostB s = true) : s.all hostB = true := by
  simp only [isHostB, Bool.and_eq_true, decide_eq_true_eq, List.all_eq_true] at h
  have h1 := splitK_bytes 46 labB (Lib.count s [46]) s (fun x hx => by
    have := h.2 x hx
    simp only [isLab, Bool.and_eq_true] at this
    exact this.2)
  rw [List.all_eq_true] at h1 ⊢
  intro c hc
  have := h1 c hc
  simp only [Bool.or_eq_true, labB, decide_eq_true_eq] at this
  simp only [hostB, Bool.or_eq_true, decide_eq_true_eq]
  rcases this with h | h
  · exact .inl h
  · exact .inr (by rw [h]; rfl)
def portB (s : Bs) : Nat := if 1 ≤ s.length ∧ s.length ≤ 5 ∧ s.all isDig = true then (if (s.foldl (fun n c => 10 * n + (c.toNat - 48)) 0) ≤ 65535 then s.foldl (fun n c => 10 * n + (c.toNat - 48)) 0 else 0) else 0
theorem port_digits {s : Bs} (h : portB s ≠ 0) : 1 ≤ s.length ∧ s.all isDig = true := by
  unfold portB at h
  split at h
  · rename_i hc; exact ⟨hc.1, hc.2.2⟩
  · exact absurd rfl h

/-! An address, written and read. -/
structure Adr where
  scheme : Bs
  host : Bs
  port : Bs
  path : Bs
  query : Bs
  hasQ : Bool
  frag : Bs
  hasF : Bool
abbrev Adr.zero : Adr := ⟨[], [], [], [], [], false, [], false⟩
def qPart (a : Adr) : Bs := if a.hasQ = true then 63 :: a.query else []
def fPart (a : Adr) : Bs := if a.hasF = true then 35 :: a.frag else []
def pPart (a : Adr) : Bs := if a.port = [] then [] else 58 :: a.port
def behindA (a : Adr) : Bs := a.path ++ qPart a ++ fPart a
def writeA (a : Adr) : Bs := a.scheme ++ [58, 47, 47] ++ a.host ++ pPart a ++ behindA a
def isRow (w s : Bs) : Prop := rowE w s = (s.length, true)
instance (w s : Bs) : Decidable (isRow w s) := by unfold isRow; infer_instance
/-- The fragment: behind the sign; or the place of the fault. -/
def fragP (r : Bs) (p : Nat) : Except Nat (Bs × Bool) := match r with
  | 35 :: r1 => if (rowE [] r1).2 = true then .ok (r1.take (rowE [] r1).1, true) else .error (p + 1 + (rowE [] r1).1)
  | _ => .ok ([], false)
def queryP (r : Bs) (p : Nat) : Except Nat (Bs × Bool × Bs × Bool) := match r with
  | 63 :: r1 => if (rowE [35] r1).2 = true then (fragP (r1.drop (rowE [35] r1).1) (p + 1 + (rowE [35] r1).1)).map fun f => (r1.take (rowE [35] r1).1, true, f) else .error (p + 1 + (rowE [35] r1).1)
  | _ => (fragP r p).map fun f => ([], false, f)
def restP (r : Bs) (p : Nat) : Except Nat (Bs × Bs × Bool × Bs × Bool) :=
  if (rowE [63, 35] r).2 = true then (queryP (r.drop (rowE [63, 35] r).1) (p + (rowE [63, 35] r).1)).map fun x => (r.take (rowE [63, 35] r).1, x) else .error (p + (rowE [63, 35] r).1)
/-! Scheme, host and port. -/
def httpW : Bs := [104, 116, 116, 112, 58, 47, 47]
def httpsW : Bs := [104, 116, 116, 112, 115, 58, 47, 47]
/-- How many bytes of a text are a word's, letters large or small. -/
def pmatch : Bs → Bs → Nat
  | a :: w, b :: t => if low b = a then pmatch w t + 1 else 0
  | _, _ => 0
theorem pmatch_le : ∀ w t : Bs, pmatch w t ≤ w.length
  | [], t => by simp [pmatch]
  | a :: w, [] => by simp [pmatch]
  | a :: w, b :: t => by
    have := pmatch_le w t
    simp only [pmatch]
    split <;> simp <;> omega
theorem pmatch_full : ∀ (w t : Bs), pmatch w t = w.length → small (t.take w.length) = w
  | [], t, h => by simp [small]
  | a :: w, [], h => by simp [pmatch] at h
  | a :: w, b :: t, h => by
    simp only [pmatch] at h
    split at h
    · rename_i hb
      simp only [List.length_cons] at h ⊢
      rw [List.take_succ_cons]
      have := pmatch_full w t (by omega)
      simp only [small, List.map_cons] at this ⊢
      rw [hb, this]
    · simp at h
/-- The scheme's name and the place behind it; or the place of the fault. -/
def schemeP (t : Bs) : Except Nat (Bs × Nat) :=
  if pmatch httpW t = 7 then .ok (t.take 4, 7) else if pmatch httpsW t = 8 then .ok (t.take 5, 8) else .error (max (pmatch httpW t) (pmatch httpsW t))
def okS (s : Bs) : Prop := small s = [104, 116, 116, 112] ∨ small s = [104, 116, 116, 112, 115]
instance (s : Bs) : Decidable (okS s) := by unfold okS; infer_instance
def endP (r : Bs) : Prop := r = [] ∨ ∃ c r', r = c :: r' ∧ ([47, 63, 35] : Bs).contains c = true
instance (r : Bs) : Decidable (endP r) := match r with
  | [] => .isTrue (.inl rfl)
  | c :: r' => if h : ([47, 63, 35] : Bs).contains c = true then .isTrue (.inr ⟨c, r', rfl, h⟩) else .isFalse (by
      rintro (e | ⟨c', r2, e, hc⟩)
      · cases e
      · cases e; exact h hc)
/-- Host, port, what is behind them, and its place. -/
def placeP (r : Bs) (p : Nat) : Except Nat (Bs × Bs × Bs × Nat) :=
  if isHostB (r.takeWhile hostB) = true then
    match r.drop (r.takeWhile hostB).length with
    | 58 :: q => if portB (q.takeWhile isDig) = 0 then .error (p + (r.takeWhile hostB).length + 1)
      else if endP (q.drop (q.takeWhile isDig).length) then .ok (r.takeWhile hostB, q.takeWhile isDig, q.drop (q.takeWhile isDig).length, p + (r.takeWhile hostB).length + 1 + (q.takeWhile isDig).length)
      else .error (p + (r.takeWhile hostB).length + 1 + (q.takeWhile isDig).length)
    | q => if endP q then .ok (r.takeWhile hostB, [], q, p + (r.takeWhile hostB).length) else .error (p + (r.takeWhile hostB).length)
  else .error p
end Go.Proofs.YtpmfmjgnhdfakaaGreatDoor
/-
  ADDRESS, IN PLAIN LEAN: what is written is read, what is read is written.
-/
set_option linter.unusedSimpArgs false
set_option linter.unusedVariables false
namespace Go.Proofs.YtpmfmjgnhdfakaaGreatDoor
open Go.Lw
set_option maxRecDepth 100000
set_option maxHeartbeats 1000000

/-- An address that holds together, its length set aside. -/
structure ChkA (a : Adr) : Prop where
  sch : okS a.scheme
  host : isHostB a.host = true
  port : a.port = [] ∨ portB a.port ≠ 0
  slash : a.path = [] ∨ a.path[0]? = some 47
  path : isRow [63] a.path
  query : isRow [] a.query
  frag : isRow [] a.frag
  hasQ : a.query ≠ [] → a.hasQ = true
  hasF : a.frag ≠ [] → a.hasF = true
def readP (t : Bs) : Except Nat Adr :=
  match schemeP t with
  | .error n => .error n
  | .ok (s, n) => match placeP (t.drop n) n with
    | .error k => .error k
    | .ok (h, p, r, k) => match restP r k with
      | .error k => .error k
      | .ok (pa, q, hq, f, hf) => .ok ⟨s, h, p, pa, q, hq, f, hf⟩
/-! What was read. -/
theorem fragP_back {r : Bs} {p : Nat} {f : Bs} {hf : Bool} (hr : r = [] ∨ ∃ c r', r = c :: r' ∧ ([35] : Bs).contains c = true) (h : fragP r p = .ok (f, hf)) : isRow [] f ∧ (f ≠ [] → hf = true) ∧ (if hf = true then 35 :: f else []) = r := by
  rcases hr with rfl | ⟨c, r', rfl, hc⟩
  · cases h
    exact ⟨rfl, fun e => absurd rfl e, rfl⟩
  · obtain rfl : c = 35 := by simpa using hc
    simp only [fragP] at h
    split at h
    · rename_i h2
      cases h
      obtain ⟨i1, i2⟩ := rowE_take (w := []) (w2 := []) (fun c hc => .inl hc) r' (rowE [] r').1 (Prod.ext rfl h2)
      have hle := rowE_le [] r'
      have hd : r'.drop (rowE [] r').1 = [] := i2.resolve_right (by rintro ⟨c, r2, _, hc⟩; cases hc)
      have ht : r'.take (rowE [] r').1 = r' := by
        have := List.take_append_drop (rowE [] r').1 r'
        rwa [hd, List.append_nil] at this
      refine ⟨?_, fun _ => rfl, by rw [if_pos rfl, ht]⟩
      unfold isRow
      rw [i1, List.length_take, Nat.min_eq_left hle]
    · cases h
theorem queryP_back {r : Bs} {p : Nat} {q : Bs} {hq : Bool} {f : Bs} {hf : Bool} (hr : r = [] ∨ ∃ c r', r = c :: r' ∧ ([63, 35] : Bs).contains c = true) (h : queryP r p = .ok (q, hq, f, hf)) :
    isRow [] q ∧ (q ≠ [] → hq = true) ∧ isRow [] f ∧ (f ≠ [] → hf = true) ∧ (if hq = true then 63 :: q else []) ++ (if hf = true then 35 :: f else []) = r := by
  unfold queryP at h
  split at h
  · rename_i r1
    split at h
    · rename_i h2
      obtain ⟨i1, i2⟩ := rowE_take (w := []) (w2 := [35]) (fun c hc => by cases hc) r1 (rowE [35] r1).1 (Prod.ext rfl h2)
      have hle := rowE_le [35] r1
      cases hfp : fragP (r1.drop (rowE [35] r1).1) (p + 1 + (rowE [35] r1).1) with
      | error k => rw [hfp] at h; cases h
      | ok x =>
        obtain ⟨f', hf'⟩ := x
        rw [hfp] at h
        cases h
        obtain ⟨j1, j2, j3⟩ := fragP_back i2 hfp
        refine ⟨?_, fun _ => rfl, j1, j2, ?_⟩
        · unfold isRow
          rw [i1, List.length_take, Nat.min_eq_left hle]
        · rw [if_pos rfl, j3, List.cons_append, List.take_append_drop]
    · cases h
  · rename_i hne
    cases hfp : fragP r p with
    | error k => rw [hfp] at h; cases h
    | ok x =>
      obtain ⟨f', hf'⟩ := x
      rw [hfp] at h
      cases h
      have hr' : r = [] ∨ ∃ c r', r = c :: r' ∧ ([35] : Bs).contains c = true := by
        rcases hr with e | ⟨c, r', rfl, hc⟩
        · exact .inl e
        · have : c = 63 ∨ c = 35 := by simpa using hc
          rcases this with e | e
          · exact absurd (by rw [e]) (hne r')
          · exact .inr ⟨c, r', rfl, by rw [e]; decide⟩
      obtain ⟨j1, j2, j3⟩ := fragP_back hr' hfp
      exact ⟨rfl, fun e => absurd rfl e, j1, j2, by simpa using j3⟩
theorem restP_back {r : Bs} {p : Nat} {pa q : Bs} {hq : Bool} {f : Bs} {hf : Bool} (hr : endP r) (h : restP r p = .ok (pa, q, hq, f, hf)) :
    (pa = [] ∨ pa[0]? = some 47) ∧ isRow [63] pa ∧ isRow [] q ∧ (q ≠ [] → hq = true) ∧ isRow [] f ∧ (f ≠ [] → hf = true) ∧ pa ++ (if hq = true then 63 :: q else []) ++ (if hf = true then 35 :: f else []) = r := by
  unfold restP at h
  split at h
  · rename_i h2
    obtain ⟨i1, i2⟩ := rowE_take (w := [63]) (w2 := [63, 35]) (fun c hc => .inl (by
      have : c = 63 := by simpa using hc
      rw [this]; decide)) r (rowE [63, 35] r).1 (Prod.ext rfl h2)
    have hle := rowE_le [63, 35] r
    cases hfp : queryP (r.drop (rowE [63, 35] r).1) (p + (rowE [63, 35] r).1) with
    | error k => rw [hfp] at h; cases h
    | ok x =>
      obtain ⟨q', hq', f', hf'⟩ := x
      rw [hfp] at h
      cases h
      obtain ⟨j1, j2, j3, j4, j5⟩ := queryP_back i2 hfp
      refine ⟨?_, ?_, j1, j2, j3, j4, ?_⟩
      · rcases hr with rfl | ⟨c, r', rfl, hc⟩
        · exact .inl (by simp)
        · have : c = 47 ∨ c = 63 ∨ c = 35 := by simpa using hc
          rcases this with e | e | e
          · subst e
            by_cases h0 : (rowE [63, 35] (47 :: r')).1 = 0
            · exact .inl (by rw [h0]; rfl)
            · right
              rw [List.getElem?_take, if_pos (by omega)]
              rfl
          · left
            have : (rowE [63, 35] (c :: r')).1 = 0 := by rw [rowE.eq_def]; simp [e]
            rw [this]; rfl
          · left
            have : (rowE [63, 35] (c :: r')).1 = 0 := by rw [rowE.eq_def]; simp [e]
            rw [this]; rfl
      · unfold isRow
        rw [i1, List.length_take, Nat.min_eq_left hle]
      · rw [List.append_assoc, j5, List.take_append_drop]
  · cases h
theorem drop_takeWhile (p : UInt8 → Bool) (s : Bs) : s.takeWhile p ++ s.drop (s.takeWhile p).length = s := by
  conv => rhs; rw [← List.takeWhile_append_dropWhile (p := p) (l := s)]
  congr 1
  have := List.takeWhile_append_dropWhile (p := p) (l := s)
  conv => lhs; rw [← this]
  rw [this, ← this, List.takeWhile_append_dropWhile]
  conv => lhs; arg 2; rw [← this]
  rw [List.drop_left]
theorem placeP_back {r : Bs} {p : Nat} {h q r2 : Bs} {k : Nat} (he : placeP r p = .ok (h, q, r2, k)) :
    isHostB h = true ∧ (q = [] ∨ portB q ≠ 0) ∧ endP r2 ∧ h ++ (if q = [] then [] else 58 :: q) ++ r2 = r := by
  unfold placeP at he
  split at he
  · rename_i hh
    have hd := drop_takeWhile hostB r
    split at he
    · rename_i q' hq'
      split at he
      · cases he
      · rename_i hp
        split at he
        · rename_i hend
          cases he
          have hne : q'.takeWhile isDig ≠ [] := fun e => hp (by rw [e]; rfl)
          refine ⟨hh, .inr hp, hend, ?_⟩
          rw [if_neg hne, List.append_assoc, List.cons_append, drop_takeWhile, ← hq', hd]
        · cases he
    · split at he
      · rename_i hend
        cases he
        refine ⟨hh, .inl rfl, hend, ?_⟩
        rw [if_pos rfl, List.append_nil, hd]
      · cases he
  · cases he
theorem low_sign {b c : UInt8} (h : low b = c) (hc : ¬ (97 ≤ c.toNat ∧ c.toNat ≤ 122)) : b = c := by
  unfold low at h
  split at h
  · rename_i hu
    exfalso
    apply hc
    rw [← h]
    simp [isUp] at hu
    simp
    omega
  · exact h
theorem sign3 {s : Bs} (h : small s = [58, 47, 47]) : s = [58, 47, 47] := by
  match s, h with
  | [a, b, c], h =>
    simp only [small, List.map_cons, List.map_nil, List.cons.injEq, and_true] at h
    rw [low_sign h.1 (by decide), low_sign h.2.1 (by decide), low_sign h.2.2 (by decide)]
  | [], h => cases h
  | [_], h => simp [small] at h
  | [_, _], h => simp [small] at h
  | _ :: _ :: _ :: _ :: _, h => simp [small] at h
theorem scheme_part {t : Bs} {w : Bs} {k : Nat} (h : small (t.take (k + 3)) = w ++ [58, 47, 47]) (hw : w.length = k) : small (t.take k) = w ∧ t.take k ++ [58, 47, 47] ++ t.drop (k + 3) = t := by
  rw [List.take_add] at h
  simp only [small, List.map_append] at h
  have hl : ((t.take k).map low).length = w.length := by
    have := congrArg List.length h
    simp only [List.length_append, List.length_map, List.length_take, List.length_drop, List.length_cons, List.length_nil] at this ⊢
    omega
  obtain ⟨h1, h2⟩ := List.append_inj h hl
  refine ⟨h1, ?_⟩
  have h3 := sign3 h2
  rw [← h3, ← List.take_add, List.take_append_drop]
theorem schemeP_back {t s : Bs} {n : Nat} (h : schemeP t = .ok (s, n)) : okS s ∧ s ++ [58, 47, 47] ++ t.drop n = t := by
  unfold schemeP at h
  split at h
  · rename_i h1
    cases h
    obtain ⟨e1, e2⟩ := scheme_part (k := 4) (w := [104, 116, 116, 112]) (pmatch_full httpW t h1) rfl
    exact ⟨.inl e1, e2⟩
  · split at h
    · rename_i h1
      cases h
      obtain ⟨e1, e2⟩ := scheme_part (k := 5) (w := [104, 116, 116, 112, 115]) (pmatch_full httpsW t h1) rfl
      exact ⟨.inr e1, e2⟩
    · cases h
theorem readP_back {t : Bs} {a : Adr} (h : readP t = .ok a) : ChkA a ∧ writeA a = t := by
  unfold readP at h
  split at h
  · cases h
  · rename_i s n hs
    obtain ⟨h1, h2⟩ := schemeP_back hs
    split at h
    · cases h
    · rename_i hh p r k hp
      obtain ⟨h3, h4, h5, h6⟩ := placeP_back hp
      split at h
      · cases h
      · rename_i pa q hq f hf hr
        obtain ⟨h7, h8, h9, h10, h11, h12, h13⟩ := restP_back h5 hr
        cases h
        refine ⟨⟨h1, h3, h4, h7, h8, h9, h11, h10, h12⟩, ?_⟩
        simp only [writeA, pPart, behindA, qPart, fPart]
        rw [h13, List.append_assoc, List.append_assoc, ← List.append_assoc hh, h6]
        exact h2
end Go.Proofs.YtpmfmjgnhdfakaaGreatDoor
/-
  ADDRESS, IN PLAIN LEAN: steps of the walks.
-/
set_option linter.unusedSimpArgs false
set_option linter.unusedVariables false
namespace Go.Proofs.YtpmfmjgnhdfakaaGreatDoor
open Go.Lw
set_option maxRecDepth 100000
set_option maxHeartbeats 1000000

theorem drop_get (s : Bs) (i : Nat) (h : i < s.length) : s.drop i = s[i]?.getD 0 :: s.drop (i + 1) := by
  rw [List.drop_eq_getElem_cons h]; simp [h]
theorem rowE_end (w s : Bs) (i : Nat) (h : s.length ≤ i) : rowE w (s.drop i) = (0, true) := by
  rw [List.drop_of_length_le h]; rfl
theorem rowE_at (w s : Bs) (i : Nat) (h : i < s.length) : rowE w (s.drop i) =
    if w.contains (s[i]?.getD 0) = true then (0, true) else if badB (s[i]?.getD 0) = true then (0, false)
    else if s[i]?.getD 0 = 37 then (if i + 2 < s.length ∧ isHexB (s[i + 1]?.getD 0) = true ∧ isHexB (s[i + 2]?.getD 0) = true then ((rowE w (s.drop (i + 3))).1 + 3, (rowE w (s.drop (i + 3))).2) else (0, false))
    else ((rowE w (s.drop (i + 1))).1 + 1, (rowE w (s.drop (i + 1))).2) := by
  rw [drop_get s i h, rowE.eq_def]
  simp only
  split
  · rfl
  split
  · rfl
  split
  · by_cases h1 : i + 1 < s.length
    · rw [drop_get s (i + 1) h1]
      by_cases h2 : i + 2 < s.length
      · rw [drop_get s (i + 1 + 1) h2]
        simp only [h2, true_and]
      · rw [List.drop_of_length_le (show s.length ≤ i + 1 + 1 by omega)]
        rw [if_neg (fun e => h2 e.1)]
    · rw [List.drop_of_length_le (show s.length ≤ i + 1 by omega)]
      rw [if_neg (fun e => h1 (by omega))]
  · rfl
/-- How far a row goes from a place on: what the loop keeps. -/
def rowAt (w s : Bs) (i : Nat) : Nat × Bool := (i + (rowE w (s.drop i)).1, (rowE w (s.drop i)).2)
theorem rowAt_zero (w s : Bs) : rowAt w s 0 = rowE w s := by simp [rowAt]
theorem rowAt_end (w s : Bs) (i : Nat) (h : s.length ≤ i) : rowAt w s i = (i, true) := by simp [rowAt, rowE_end w s i h]
theorem rowAt_step (w s : Bs) (i : Nat) (h : i < s.length) : rowAt w s i =
    if w.contains (s[i]?.getD 0) = true then (i, true) else if badB (s[i]?.getD 0) = true then (i, false)
    else if s[i]?.getD 0 = 37 then (if i + 2 < s.length ∧ isHexB (s[i + 1]?.getD 0) = true ∧ isHexB (s[i + 2]?.getD 0) = true then rowAt w s (i + 3) else (i, false))
    else rowAt w s (i + 1) := by
  unfold rowAt
  rw [rowE_at w s i h]
  repeat' split
  all_goals first | rfl | (refine Prod.ext ?_ rfl; simp only; omega)
def digN (s : Bs) : Nat := s.foldl (fun n c => 10 * n + (c.toNat - 48)) 0
theorem digN_take (s : Bs) (j : Nat) (h : j < s.length) : digN (s.take (j + 1)) = 10 * digN (s.take j) + ((s[j]?.getD 0).toNat - 48) := by
  unfold digN
  rw [List.take_add_one, List.foldl_append]
  simp [h]
theorem digN_lt (s : Bs) (hs : s.all isDig = true) (j : Nat) (h : j ≤ s.length) : digN (s.take j) < 10 ^ j := by
  induction j with
  | zero => simp [digN]
  | succ j ih =>
    have h1 := ih (by omega)
    rw [digN_take s j (by omega)]
    have h2 : isDig s[j] = true := List.all_eq_true.1 hs _ (List.getElem_mem (by omega))
    have h3 : s[j]?.getD 0 = s[j] := by rw [List.getElem?_eq_getElem (by omega)]; rfl
    simp only [isDig, Bool.and_eq_true, decide_eq_true_eq] at h2
    rw [h3, Nat.pow_succ]
    omega
theorem dig_at (s : Bs) (hs : s.all isDig = true) (j : Nat) (h : j < s.length) : 48 ≤ (s[j]?.getD 0).toNat ∧ (s[j]?.getD 0).toNat ≤ 57 := by
  have h2 : isDig s[j] = true := List.all_eq_true.1 hs _ (List.getElem_mem h)
  have h3 : s[j]?.getD 0 = s[j] := by rw [List.getElem?_eq_getElem h]; rfl
  simp only [isDig, Bool.and_eq_true, decide_eq_true_eq] at h2
  rw [h3]; exact h2
theorem portB_no (s : Bs) (h : ¬ (1 ≤ s.length ∧ s.length ≤ 5 ∧ s.all isDig = true)) : portB s = 0 := by unfold portB; rw [if_neg h]
theorem portB_yes (s : Bs) (h : 1 ≤ s.length ∧ s.length ≤ 5 ∧ s.all isDig = true) : portB s = if digN s ≤ 65535 then digN s else 0 := by unfold portB; rw [if_pos h]; rfl
end Go.Proofs.YtpmfmjgnhdfakaaGreatDoor
/-
  ADDRESS, IN PLAIN LEAN: what the reader's methods do.
-/
set_option linter.unusedSimpArgs false
set_option linter.unusedVariables false
namespace Go.Proofs.YtpmfmjgnhdfakaaGreatDoor
open Go.Lw
set_option maxRecDepth 100000
set_option maxHeartbeats 1000000

theorem pre_iff (c : UInt8) (t : Bs) (i : Nat) : [c] <+: t.drop i ↔ t.drop i = c :: t.drop (i + 1) := by
  constructor
  · rintro ⟨r, h⟩
    have h2 : t.drop (i + 1) = (t.drop i).drop 1 := by simp
    rw [h2, ← h]; simp
  · intro h; rw [h]; exact ⟨_, rfl⟩
theorem pre_lt {c : UInt8} {t : Bs} {i : Nat} (h : [c] <+: t.drop i) : i < t.length := by
  rw [pre_iff] at h
  have := congrArg List.length h
  simp at this; omega
theorem head_not {c : UInt8} {r : Bs} (h : ¬ [c] <+: r) : ∀ r', r ≠ c :: r' := fun r' e => h ⟨r', e.symm⟩
/-- What place does: whether it goes on, where it stands, what it knows. -/
def plR (t : Bs) (i : Nat) (a : Adr) : Bool × Nat × Adr :=
  if isHostB ((t.drop i).takeWhile hostB) = true then
    if [58] <+: t.drop (skip hostB t i) then
      if portB ((t.drop (skip hostB t i + 1)).takeWhile isDig) = 0 then (false, skip hostB t i + 1, { a with host := (t.drop i).takeWhile hostB, port := (t.drop (skip hostB t i + 1)).takeWhile isDig })
      else (decide (endP (t.drop (skip isDig t (skip hostB t i + 1)))), skip isDig t (skip hostB t i + 1), { a with host := (t.drop i).takeWhile hostB, port := (t.drop (skip hostB t i + 1)).takeWhile isDig })
    else (decide (endP (t.drop (skip hostB t i))), skip hostB t i, { a with host := (t.drop i).takeWhile hostB })
  else (false, i, { a with host := (t.drop i).takeWhile hostB })
def frR (t : Bs) (i : Nat) (a : Adr) : Bool × Nat × Adr :=
  if [35] <+: t.drop i then ((rowE [] (t.drop (i + 1))).2, i + 1 + (rowE [] (t.drop (i + 1))).1, { a with hasF := true, frag := (t.drop (i + 1)).take (rowE [] (t.drop (i + 1))).1 })
  else (true, i, a)
def quR (t : Bs) (i : Nat) (a : Adr) : Bool × Nat × Adr :=
  if [63] <+: t.drop i then
    if (rowE [35] (t.drop (i + 1))).2 = true then frR t (i + 1 + (rowE [35] (t.drop (i + 1))).1) { a with hasQ := true, query := (t.drop (i + 1)).take (rowE [35] (t.drop (i + 1))).1 }
    else (false, i + 1 + (rowE [35] (t.drop (i + 1))).1, { a with hasQ := true, query := (t.drop (i + 1)).take (rowE [35] (t.drop (i + 1))).1 })
  else frR t i a
def reR (t : Bs) (i : Nat) (a : Adr) : Bool × Nat × Adr :=
  if (rowE [63, 35] (t.drop i)).2 = true then quR t (i + (rowE [63, 35] (t.drop i)).1) { a with path := (t.drop i).take (rowE [63, 35] (t.drop i)).1 }
  else (false, i + (rowE [63, 35] (t.drop i)).1, { a with path := (t.drop i).take (rowE [63, 35] (t.drop i)).1 })
theorem skip_drop (p : UInt8 → Bool) (t : Bs) (i : Nat) : (t.drop i).drop ((t.drop i).takeWhile p).length = t.drop (skip p t i) := by
  rw [List.drop_drop]; unfold skip; congr 1
theorem skip_len (p : UInt8 → Bool) (t : Bs) (i : Nat) : i + ((t.drop i).takeWhile p).length = skip p t i := rfl
theorem plR_P (t : Bs) (i : Nat) (a : Adr) (hp : a.port = []) : placeP (t.drop i) i = if (plR t i a).1 = true then .ok ((plR t i a).2.2.host, (plR t i a).2.2.port, t.drop (plR t i a).2.1, (plR t i a).2.1) else .error (plR t i a).2.1 := by
  unfold placeP plR
  rw [skip_drop, skip_len]
  split
  · by_cases h : [58] <+: t.drop (skip hostB t i)
    · rw [if_pos h]
      have e := (pre_iff _ _ _).1 h
      generalize hr : t.drop (skip hostB t i + 1) = q at e
      rw [e]
      simp only
      split
      · simp
      · have e2 := skip_drop isDig t (skip hostB t i + 1)
        have e3 := skip_len isDig t (skip hostB t i + 1)
        rw [hr] at e2 e3
        rw [e2, e3]
        split
        · rename_i h2; simp [h2]
        · rename_i h2; simp [h2]
    · rw [if_neg h]
      have hn := head_not h
      generalize t.drop (skip hostB t i) = q at hn
      split
      · rename_i q' ; exact absurd rfl (hn _)
      · split
        · rename_i h2; simp [h2, hp]
        · rename_i h2; simp [h2]
  · simp
theorem frR_P (t : Bs) (i : Nat) (a : Adr) (hf : a.frag = []) (hg : a.hasF = false) : fragP (t.drop i) i = if (frR t i a).1 = true then .ok ((frR t i a).2.2.frag, (frR t i a).2.2.hasF) else .error (frR t i a).2.1 := by
  unfold fragP frR
  by_cases h : [35] <+: t.drop i
  · rw [if_pos h]
    have e := (pre_iff _ _ _).1 h
    generalize hr : t.drop (i + 1) = q at e
    rw [e]
    rfl
  · rw [if_neg h]
    have hn := head_not h
    generalize t.drop i = q at hn
    split
    · exact absurd rfl (hn _)
    · simp [hf, hg]
theorem frR_same (t : Bs) (i : Nat) (a : Adr) : (frR t i a).2.2.query = a.query ∧ (frR t i a).2.2.hasQ = a.hasQ ∧ (frR t i a).2.2.path = a.path ∧ (frR t i a).2.2.scheme = a.scheme ∧ (frR t i a).2.2.host = a.host ∧ (frR t i a).2.2.port = a.port := by
  unfold frR; split <;> simp
theorem quR_P (t : Bs) (i : Nat) (a : Adr) (hq : a.query = []) (hr : a.hasQ = false) (hf : a.frag = []) (hg : a.hasF = false) :
    queryP (t.drop i) i = if (quR t i a).1 = true then .ok ((quR t i a).2.2.query, (quR t i a).2.2.hasQ, (quR t i a).2.2.frag, (quR t i a).2.2.hasF) else .error (quR t i a).2.1 := by
  unfold queryP quR
  by_cases h : [63] <+: t.drop i
  · rw [if_pos h]
    have e := (pre_iff _ _ _).1 h
    have hdd := fun k => (List.drop_drop (i := k) (j := i + 1) (l := t))
    generalize hr : t.drop (i + 1) = q at e hdd
    rw [e]
    simp only
    split
    · rw [hdd]
      rw [frR_P t (i + 1 + (rowE [35] q).1) { a with hasQ := true, query := q.take (rowE [35] q).1 } hf hg]
      have hs := frR_same t (i + 1 + (rowE [35] q).1) { a with hasQ := true, query := q.take (rowE [35] q).1 }
      split
      · simp [Except.map, hs]
      · simp [Except.map]
    · simp
  · rw [if_neg h]
    have hn := head_not h
    have hs := frR_same t i a
    have hP := frR_P t i a hf hg
    generalize hq' : t.drop i = q at hn hP
    split
    · exact absurd rfl (hn _)
    · rw [hP]
      split
      · simp [Except.map, hs, hq, hr]
      · simp [Except.map]
theorem quR_same (t : Bs) (i : Nat) (a : Adr) : (quR t i a).2.2.path = a.path ∧ (quR t i a).2.2.scheme = a.scheme ∧ (quR t i a).2.2.host = a.host ∧ (quR t i a).2.2.port = a.port := by
  unfold quR
  split
  · split
    · have := frR_same t (i + 1 + (rowE [35] (t.drop (i + 1))).1) { a with hasQ := true, query := (t.drop (i + 1)).take (rowE [35] (t.drop (i + 1))).1 }
      exact ⟨this.2.2.1, this.2.2.2.1, this.2.2.2.2.1, this.2.2.2.2.2⟩
    · simp
  · have := frR_same t i a
    exact ⟨this.2.2.1, this.2.2.2.1, this.2.2.2.2.1, this.2.2.2.2.2⟩
theorem reR_P (t : Bs) (i : Nat) (a : Adr) (hq : a.query = []) (hr : a.hasQ = false) (hf : a.frag = []) (hg : a.hasF = false) :
    restP (t.drop i) i = if (reR t i a).1 = true then .ok ((reR t i a).2.2.path, (reR t i a).2.2.query, (reR t i a).2.2.hasQ, (reR t i a).2.2.frag, (reR t i a).2.2.hasF) else .error (reR t i a).2.1 := by
  unfold restP reR
  split
  · rw [List.drop_drop]
    rw [quR_P t (i + (rowE [63, 35] (t.drop i)).1) { a with path := (t.drop i).take (rowE [63, 35] (t.drop i)).1 } hq hr hf hg]
    have hs := quR_same t (i + (rowE [63, 35] (t.drop i)).1) { a with path := (t.drop i).take (rowE [63, 35] (t.drop i)).1 }
    split
    · simp [Except.map, hs]
    · simp [Except.map]
  · simp
theorem reR_same (t : Bs) (i : Nat) (a : Adr) : (reR t i a).2.2.scheme = a.scheme ∧ (reR t i a).2.2.host = a.host ∧ (reR t i a).2.2.port = a.port := by
  unfold reR
  split
  · have := quR_same t (i + (rowE [63, 35] (t.drop i)).1) { a with path := (t.drop i).take (rowE [63, 35] (t.drop i)).1 }
    exact ⟨this.2.1, this.2.2.1, this.2.2.2⟩
  · simp
theorem plR_same (t : Bs) (i : Nat) (a : Adr) : (plR t i a).2.2.scheme = a.scheme ∧ (plR t i a).2.2.path = a.path ∧ (plR t i a).2.2.query = a.query ∧ (plR t i a).2.2.hasQ = a.hasQ ∧ (plR t i a).2.2.frag = a.frag ∧ (plR t i a).2.2.hasF = a.hasF := by
  unfold plR
  split
  · split
    · split <;> simp
    · simp
  · simp
/-- What Read finds behind the scheme. -/
theorem readR_P (t s : Bs) (n : Nat) (h : schemeP t = .ok (s, n)) : readP t =
    if (plR t n { Adr.zero with scheme := s }).1 = true then
      (if (reR t (plR t n { Adr.zero with scheme := s }).2.1 (plR t n { Adr.zero with scheme := s }).2.2).1 = true then .ok (reR t (plR t n { Adr.zero with scheme := s }).2.1 (plR t n { Adr.zero with scheme := s }).2.2).2.2
        else .error (reR t (plR t n { Adr.zero with scheme := s }).2.1 (plR t n { Adr.zero with scheme := s }).2.2).2.1)
    else .error (plR t n { Adr.zero with scheme := s }).2.1 := by
  unfold readP
  rw [h]
  have e1 := plR_P t n { Adr.zero with scheme := s } rfl
  have hs := plR_same t n { Adr.zero with scheme := s }
  generalize plR t n { Adr.zero with scheme := s } = x at e1 hs
  have e2 := reR_P t x.2.1 x.2.2 (by rw [hs.2.2.1]) (by rw [hs.2.2.2.1]) (by rw [hs.2.2.2.2.1]) (by rw [hs.2.2.2.2.2])
  have hs2 := reR_same t x.2.1 x.2.2
  generalize reR t x.2.1 x.2.2 = y at e2 hs2
  obtain ⟨b, k, xa⟩ := x
  obtain ⟨b2, k2, ⟨ysc, yh, yp, ypa, yq, yhq, yf, yhf⟩⟩ := y
  simp only at e1 e2 hs hs2 ⊢
  rw [e1]
  cases b
  · rfl
  · simp only [if_true]
    rw [e2]
    cases b2
    · rfl
    · simp only [if_true]
      obtain ⟨h1, h2, h3⟩ := hs2
      rw [h1, h2, h3, hs.1]
end Go.Proofs.YtpmfmjgnhdfakaaGreatDoor
/-
  ADDRESS, IN PLAIN LEAN: the check of an address.
-/
set_option linter.unusedSimpArgs false
set_option linter.unusedVariables false
namespace Go.Proofs.YtpmfmjgnhdfakaaGreatDoor
open Go.Lw
set_option maxRecDepth 100000
set_option maxHeartbeats 1000000

def chkS (a : Adr) : Prop := ¬ okS a.scheme ∨ isHostB a.host = false ∨ (a.port ≠ [] ∧ portB a.port = 0)
def chkR (a : Adr) : Prop := (a.path ≠ [] ∧ (a.path[0]?.getD 0).toNat ≠ 47) ∨ ¬ isRow [63] a.path ∨ ¬ isRow [] a.query ∨ ¬ isRow [] a.frag
def chkF (a : Adr) : Prop := (a.query ≠ [] ∧ a.hasQ = false) ∨ (a.frag ≠ [] ∧ a.hasF = false)
instance (a : Adr) : Decidable (chkS a) := by unfold chkS; infer_instance
instance (a : Adr) : Decidable (chkR a) := by unfold chkR; infer_instance
instance (a : Adr) : Decidable (chkF a) := by unfold chkF; infer_instance
/-- The error of an address. -/
def chkC (a : Adr) : Nat := if chkS a then 10 else if chkR a then 10 else if chkF a then 3 else if 2000 < (writeA a).length then 2 else 0
theorem chk_iff (a : Adr) : chkC a = 0 ↔ ChkA a ∧ (writeA a).length ≤ 2000 := by
  have hp : (a.path ≠ [] ∧ (a.path[0]?.getD 0).toNat ≠ 47) ↔ ¬ (a.path = [] ∨ a.path[0]? = some 47) := by
    cases a.path with
    | nil => simp
    | cons c r => simp [← UInt8.toNat_inj]
  unfold chkC
  constructor
  · intro h
    split at h
    · omega
    rename_i h1
    split at h
    · omega
    rename_i h2
    split at h
    · omega
    rename_i h3
    split at h
    · omega
    rename_i h4
    simp only [chkS, not_or, Classical.not_not, not_and] at h1
    simp only [chkR, not_or, Classical.not_not] at h2
    simp only [chkF, not_or, not_and] at h3
    exact ⟨⟨h1.1, by simpa using h1.2.1, by
      rcases Classical.em (a.port = []) with h | h
      · exact .inl h
      · exact .inr (h1.2.2 h), Classical.not_not.1 (fun e => h2.1 (hp.2 e)), h2.2.1, h2.2.2.1, h2.2.2.2, fun h => by simpa using h3.1 h, fun h => by simpa using h3.2 h⟩, by omega⟩
  · rintro ⟨⟨k1, k2, k3, k4, k5, k6, k7, k8, k9⟩, hl⟩
    rw [if_neg, if_neg, if_neg, if_neg (by omega)]
    · simp only [chkF, not_or, not_and]; exact ⟨fun h => by rw [k8 h]; decide, fun h => by rw [k9 h]; decide⟩
    · simp only [chkR, not_or, Classical.not_not]; exact ⟨fun e => hp.1 e k4, k5, k6, k7⟩
    · simp only [chkS, not_or, Classical.not_not, not_and]
      exact ⟨k1, by rw [k2]; decide, fun h => by
        rcases k3 with k | k
        · exact absurd k h
        · exact k⟩
def readC (t : Bs) : Adr × Nat × Nat := if 2000 < t.length then (Adr.zero, 0, 2) else match readP t with
  | .ok a => (a, 0, 0)
  | .error n => (Adr.zero, n, 10)
theorem readC_back (t : Bs) : ((readC t).2.2 ≠ 0 ∧ (readC t).1 = Adr.zero) ∨ ((readC t).2.2 = 0 ∧ (readC t).2.1 = 0 ∧ chkC (readC t).1 = 0 ∧ writeA (readC t).1 = t) := by
  unfold readC
  split
  · exact .inl ⟨by decide, rfl⟩
  · rename_i hl
    split
    · rename_i a h
      obtain ⟨h1, h2⟩ := readP_back h
      exact .inr ⟨rfl, rfl, (chk_iff a).2 ⟨h1, by rw [h2]; omega⟩, h2⟩
    · exact .inl ⟨by simp, rfl⟩
end Go.Proofs.YtpmfmjgnhdfakaaGreatDoor
