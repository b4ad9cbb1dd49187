/-
  ADDRESS, IN PLAIN LEAN: rows.
-/
import Derived.Test.YtglonkenckigiaaGreatDoorLibS
import Derived.Lib.IndexBytes
set_option linter.unusedSimpArgs false
set_option linter.unusedVariables false
namespace Go.Proofs.YtglonkenckigiaaGreatDoor
open Go.Lw
set_option maxRecDepth 100000
set_option maxHeartbeats 1000000

def isHexB (c : UInt8) : Bool := isDig c || (decide (97 ≤ c.toNat) && decide (c.toNat ≤ 102)) || (decide (65 ≤ c.toNat) && decide (c.toNat ≤ 70))
/-- Bytes that no row has. -/
def noRow : Bs := [34, 35, 60, 62, 92, 94, 123, 124, 125, 96]
def badB (c : UInt8) : Bool := decide (c.toNat < 33) || decide (126 < c.toNat) || noRow.contains c
/-- How far a row goes, without some bytes; whether it ends well. -/
def rowE (w : Bs) : Bs → Nat × Bool
  | [] => (0, true)
  | c :: r => if w.contains c = true then (0, true) else if badB c = true then (0, false)
    else if c = 37 then match r with
      | h :: k :: r2 => if isHexB h = true ∧ isHexB k = true then ((rowE w r2).1 + 3, (rowE w r2).2) else (0, false)
      | _ => (0, false)
    else ((rowE w r).1 + 1, (rowE w r).2)
theorem rowE_le (w : Bs) : ∀ s : Bs, (rowE w s).1 ≤ s.length
  | [] => by simp [rowE]
  | c :: r => by
    rw [rowE.eq_def]
    simp only
    split
    · simp
    · split
      · simp
      · split
        · match r with
          | [] => simp
          | [h] => simp
          | h :: k :: r2 =>
            simp only
            split
            · have := rowE_le w r2; simp; omega
            · simp
        · have := rowE_le w r; simp; omega
/-- A whole row, and behind it a byte at which it ends. -/
theorem rowE_app {w w2 : Bs} (hw : ∀ c, w2.contains c = true → w.contains c = true ∨ badB c = true) {r : Bs} (hr : r = [] ∨ ∃ c r', r = c :: r' ∧ w2.contains c = true) :
    ∀ p : Bs, rowE w p = (p.length, true) → rowE w2 (p ++ r) = (p.length, true)
  | [], _ => by
    rcases hr with rfl | ⟨c, r', rfl, hc⟩
    · rfl
    · rw [List.nil_append, rowE.eq_def]
      simp only
      rw [if_pos hc]; rfl
  | c :: p, h => by
    rw [rowE.eq_def] at h
    simp only at h
    by_cases h1 : w.contains c = true
    · rw [if_pos h1] at h; simp at h
    rw [if_neg h1] at h
    by_cases h2 : badB c = true
    · rw [if_pos h2] at h; simp at h
    rw [if_neg h2] at h
    have h3 : ¬ w2.contains c = true := fun e => (hw c e).elim h1 h2
    rw [List.cons_append, rowE.eq_def]
    simp only
    rw [if_neg h3, if_neg h2]
    by_cases h4 : c = 37
    · rw [if_pos h4] at h ⊢
      match p, h with
      | [], h => simp at h
      | [a], h => simp at h
      | a :: b :: p2, h =>
        simp only [List.cons_append] at h ⊢
        by_cases h5 : isHexB a = true ∧ isHexB b = true
        · rw [if_pos h5] at h ⊢
          have e1 := congrArg Prod.fst h
          have e2 := congrArg Prod.snd h
          simp only [List.length_cons] at e1 e2
          have ih := rowE_app hw hr p2 (Prod.ext (by simp only; omega) e2)
          rw [ih]; rfl
        · rw [if_neg h5] at h; simp at h
    · rw [if_neg h4] at h ⊢
      have e1 := congrArg Prod.fst h
      have e2 := congrArg Prod.snd h
      simp only [List.length_cons] at e1 e2
      have ih := rowE_app hw hr p (Prod.ext (by simp only; omega) e2)
      rw [ih]; rfl
/-- What was passed is a whole row; behind it is the end, or a byte at which it ends. -/
theorem rowE_take {w w2 : Bs} (hw : ∀ c, w.contains c = true → w2.contains c = true ∨ badB c = true) :
    ∀ (s : Bs) (n : Nat), rowE w2 s = (n, true) → rowE w (s.take n) = (n, true) ∧ (s.drop n = [] ∨ ∃ c r', s.drop n = c :: r' ∧ w2.contains c = true)
  | [], n, h => by
    cases h
    exact ⟨rfl, .inl rfl⟩
  | c :: r, n, h => by
    rw [rowE.eq_def] at h
    simp only at h
    by_cases h1 : w2.contains c = true
    · rw [if_pos h1] at h
      cases h
      exact ⟨rfl, .inr ⟨c, r, rfl, h1⟩⟩
    rw [if_neg h1] at h
    by_cases h2 : badB c = true
    · rw [if_pos h2] at h; cases h
    rw [if_neg h2] at h
    have h3 : ¬ w.contains c = true := fun e => (hw c e).elim h1 h2
    by_cases h4 : c = 37
    · rw [if_pos h4] at h
      match r, h with
      | [], h => cases h
      | [a], h => cases h
      | a :: b :: r2, h =>
        simp only at h
        by_cases h5 : isHexB a = true ∧ isHexB b = true
        · rw [if_pos h5] at h
          have e1 := congrArg Prod.fst h
          have e2 := congrArg Prod.snd h
          simp only at e1 e2
          obtain ⟨i1, i2⟩ := rowE_take hw r2 (rowE w2 r2).1 (Prod.ext rfl e2)
          subst e1
          refine ⟨?_, by simpa using i2⟩
          rw [List.take_succ_cons, List.take_succ_cons, List.take_succ_cons, rowE.eq_def]
          simp only
          rw [if_neg h3, if_neg h2, if_pos h4, if_pos h5, i1]
        · rw [if_neg h5] at h; cases h
    · rw [if_neg h4] at h
      have e1 := congrArg Prod.fst h
      have e2 := congrArg Prod.snd h
      simp only at e1 e2
      obtain ⟨i1, i2⟩ := rowE_take hw r (rowE w2 r).1 (Prod.ext rfl e2)
      subst e1
      refine ⟨?_, by simpa using i2⟩
      rw [List.take_succ_cons, rowE.eq_def]
      simp only
      rw [if_neg h3, if_neg h2, if_neg h4, i1]

/-! Hosts and ports. -/
def labB (c : UInt8) : Bool := isLet c || isDig c || decide (c.toNat = 45)
def isLab (s : Bs) : Bool := decide (1 ≤ s.length) && decide (s.length ≤ 63) && decide ((s[0]?.getD 0).toNat ≠ 45) && decide ((s[s.length - 1]?.getD 0).toNat ≠ 45) && s.all labB
def isHostB (s : Bs) : Bool := decide (s.length ≤ 253) && (Lib.split s [46]).all isLab
def hostB (c : UInt8) : Bool := isLet c || isDig c || decide (c.toNat = 45) || decide (c.toNat = 46)
theorem indexByte_at : ∀ {l : Bs} {c : UInt8} {i : Nat}, Lib.indexByte l c = i → l[i]? = some c ∧ ∀ x ∈ l.take i, x ≠ c
  | [], c, i, h => by simp [Lib.indexByte] at h
  | b :: l, c, i, h => by
    have hge := Lib.indexByte_ge l c
    simp only [Lib.indexByte] at h
    split at h
    · rename_i hb
      obtain rfl : i = 0 := by omega
      simp only [beq_iff_eq] at hb
      exact ⟨by rw [hb]; rfl, fun x hx => by simp at hx⟩
    · rename_i hb
      split at h
      · omega
      · rename_i hn
        simp at hn
        obtain ⟨j, rfl⟩ : ∃ j, i = j + 1 := ⟨i - 1, by omega⟩
        obtain ⟨h1, h2⟩ := indexByte_at (l := l) (c := c) (i := j) (by omega)
        refine ⟨h1, fun x hx => ?_⟩
        rw [List.take_succ_cons] at hx
        cases hx with
        | head => exact fun e => hb (by rw [e]; simp)
        | tail _ hx => exact h2 x hx
/-- Of a host each byte is a letter, a digit, a minus or a point. -/
theorem splitK_bytes (c0 : UInt8) (p : UInt8 → Bool) : ∀ (k : Nat) (s : Bs), (∀ x ∈ Lib.splitK [c0] 0 k s, x.all p = true) → s.all (fun c => p c || decide (c = c0)) = true := by
  intro k
  induction k with
  | zero =>
    intro s h
    have := h s (by simp [Lib.splitK])
    rw [List.all_eq_true] at this ⊢
    intro c hc
    simp [this c hc]
  | succ k ih =>
    intro s h
    rw [Lib.splitK] at h
    by_cases hi : (Lib.index s [c0] == -1) = true
    · rw [if_pos hi] at h
      have := h s (by simp)
      rw [List.all_eq_true] at this ⊢
      intro c hc
      simp [this c hc]
    · rw [if_neg hi] at h
      have hge := Lib.index_ge s [c0]
      have hne : Lib.index s [c0] ≠ -1 := fun e => hi (by rw [e]; rfl)
      obtain ⟨i, he⟩ : ∃ i : Nat, Lib.index s [c0] = i := ⟨(Lib.index s [c0]).toNat, by omega⟩
      rw [he] at h
      simp only [Int.toNat_natCast, Nat.add_zero, List.length_cons, List.length_nil, Nat.zero_add] at h
      have h1 := h (s.take i) (by simp)
      have h2 := ih (s.drop (i + 1)) (fun x hx => h x (List.mem_cons_of_mem _ hx))
      have hat : s[i]? = some c0 := (indexByte_at (by rw [← Lib.index_one]; exact he)).1
      have hlt := (List.getElem?_eq_some_iff.1 hat).1
      rw [← List.take_append_drop i s, List.drop_eq_getElem_cons hlt, List.all_append, List.all_cons]
      rw [List.getElem?_eq_getElem hlt] at hat
      rw [Option.some.inj hat, h2]
      rw [List.all_eq_true] at h1
      simp only [Bool.and_true, decide_true, Bool.or_true]
      rw [List.all_eq_true]
      intro c hc
      simp [h1 c hc]
theorem host_bytes {s : Bs} (h : isHostB s = true) : s.all hostB = true := by
  simp only [isHostB, Bool.and_eq_true, decide_eq_true_eq, List.all_eq_true] at h
  have h1 := splitK_bytes 46 labB (Lib.count s [46]) s (fun x hx => by
    have := h.2 x hx
    simp only [isLab, Bool.and_eq_true] at this
    exact this.2)
  rw [List.all_eq_true] at h1 ⊢
  intro c hc
  have := h1 c hc
  simp only [Bool.or_eq_true, labB, decide_eq_true_eq] at this
  simp only [hostB, Bool.or_eq_true, decide_eq_true_eq]
  rcases this with h | h
  · exact .inl h
  · exact .inr (by rw [h]; rfl)
def portB (s : Bs) : Nat := if 1 ≤ s.length ∧ s.length ≤ 5 ∧ s.all isDig = true then (if (s.foldl (fun n c => 10 * n + (c.toNat - 48)) 0) ≤ 65535 then s.foldl (fun n c => 10 * n + (c.toNat - 48)) 0 else 0) else 0
theorem port_digits {s : Bs} (h : portB s ≠ 0) : 1 ≤ s.length ∧ s.all isDig = true := by
  unfold portB at h
  split at h
  · rename_i hc; exact ⟨hc.1, hc.2.2⟩
  · exact absurd rfl h

/-! An address, written and read. -/
structure Adr where
  scheme : Bs
  host : Bs
  port : Bs
  path : Bs
  query : Bs
  hasQ : Bool
  frag : Bs
  hasF : Bool
abbrev Adr.zero : Adr := ⟨[], [], [], [], [], false, [], false⟩
def qPart (a : Adr) : Bs := if a.hasQ = true then 63 :: a.query else []
def fPart (a : Adr) : Bs := if a.hasF = true then 35 :: a.frag else []
def pPart (a : Adr) : Bs := if a.port = [] then [] else 58 :: a.port
def behindA (a : Adr) : Bs := a.path ++ qPart a ++ fPart a
def writeA (a : Adr) : Bs := a.scheme ++ [58, 47, 47] ++ a.host ++ pPart a ++ behindA a
def isRow (w s : Bs) : Prop := rowE w s = (s.length, true)
instance (w s : Bs) : Decidable (isRow w s) := by unfold isRow; infer_instance
/-- The fragment: behind the sign; or the place of the fault. -/
def fragP (r : Bs) (p : Nat) : Except Nat (Bs × Bool) := match r with
  | 35 :: r1 => if (rowE [] r1).2 = true then .ok (r1.take (rowE [] r1).1, true) else .error (p + 1 + (rowE [] r1).1)
  | _ => .ok ([], false)
def queryP (r : Bs) (p : Nat) : Except Nat (Bs × Bool × Bs × Bool) := match r with
  | 63 :: r1 => if (rowE [35] r1).2 = true then (fragP (r1.drop (rowE [35] r1).1) (p + 1 + (rowE [35] r1).1)).map fun f => (r1.take (rowE [35] r1).1, true, f) else .error (p + 1 + (rowE [35] r1).1)
  | _ => (fragP r p).map fun f => ([], false, f)
def restP (r : Bs) (p : Nat) : Except Nat (Bs × Bs × Bool × Bs × Bool) :=
  if (rowE [63, 35] r).2 = true then (queryP (r.drop (rowE [63, 35] r).1) (p + (rowE [63, 35] r).1)).map fun x => (r.take (rowE [63, 35] r).1, x) else .error (p + (rowE [63, 35] r).1)
theorem isRow_all {s : Bs} (h : isRow [] s) : (rowE [] s).1 = s.length ∧ (rowE [] s).2 = true := by unfold isRow at h; rw [h]; exact ⟨rfl, rfl⟩
theorem fragP_write (a : Adr) (hf : isRow [] a.frag) (hz : a.frag ≠ [] → a.hasF = true) (p : Nat) : fragP (fPart a) p = .ok (a.frag, a.hasF) := by
  unfold fPart
  cases hh : a.hasF with
  | true =>
    obtain ⟨h1, h2⟩ := isRow_all hf
    simp [fragP, h1, h2]
  | false =>
    have : a.frag = [] := Classical.byContradiction fun e => by rw [hz e] at hh; cases hh
    simp [fragP, this]
theorem fPart_end (a : Adr) : fPart a = [] ∨ ∃ c r, fPart a = c :: r ∧ ([35] : Bs).contains c = true := by
  unfold fPart
  split
  · exact .inr ⟨35, a.frag, rfl, by decide⟩
  · exact .inl rfl
theorem queryP_write (a : Adr) (hq : isRow [] a.query) (hf : isRow [] a.frag) (hzq : a.query ≠ [] → a.hasQ = true) (hz : a.frag ≠ [] → a.hasF = true) (p : Nat) : queryP (qPart a ++ fPart a) p = .ok (a.query, a.hasQ, a.frag, a.hasF) := by
  unfold qPart
  cases hh : a.hasQ with
  | true =>
    have h := rowE_app (w := []) (w2 := [35]) (fun c hc => .inr (by
      have : c = 35 := by simpa using hc
      rw [this]; decide)) (fPart_end a) a.query hq
    simp only [if_true, List.cons_append, queryP, h, List.take_left, List.drop_left, fragP_write a hf hz]
    rfl
  | false =>
    have hq0 : a.query = [] := Classical.byContradiction fun e => by rw [hzq e] at hh; cases hh
    have hfp := fragP_write a hf hz p
    simp only [Bool.false_eq_true, if_false, List.nil_append, hq0]
    unfold queryP
    split
    · rename_i r1 he
      rcases fPart_end a with h | ⟨c, r, h, hc⟩
      · rw [h] at he; cases he
      · rw [h] at he; cases he; exact absurd hc (by decide)
    · rw [hfp]; rfl
theorem restP_write (a : Adr) (hp : isRow [63] a.path) (hq : isRow [] a.query) (hf : isRow [] a.frag) (hzq : a.query ≠ [] → a.hasQ = true) (hz : a.frag ≠ [] → a.hasF = true) (p : Nat) : restP (behindA a) p = .ok (a.path, a.query, a.hasQ, a.frag, a.hasF) := by
  have hr : qPart a ++ fPart a = [] ∨ ∃ c r, qPart a ++ fPart a = c :: r ∧ ([63, 35] : Bs).contains c = true := by
    unfold qPart
    split
    · exact .inr ⟨63, _, rfl, by decide⟩
    · rcases fPart_end a with h | ⟨c, r, h, hc⟩
      · exact .inl (by simp [h])
      · refine .inr ⟨c, r, by simp [h], ?_⟩
        have : c = 35 := by simpa using hc
        rw [this]; decide
  have h := rowE_app (w := [63]) (w2 := [63, 35]) (fun c hc => by
    have : c = 63 ∨ c = 35 := by simpa using hc
    rcases this with e | e
    · exact .inl (by rw [e]; decide)
    · exact .inr (by rw [e]; decide)) hr a.path hp
  unfold restP behindA
  rw [List.append_assoc, h]
  simp only [if_true, List.take_left, List.drop_left, queryP_write a hq hf hzq hz]
  rfl

/-! Scheme, host and port. -/
def httpW : Bs := [104, 116, 116, 112, 58, 47, 47]
def httpsW : Bs := [104, 116, 116, 112, 115, 58, 47, 47]
/-- How many bytes of a text are a word's, letters large or small. -/
def pmatch : Bs → Bs → Nat
  | a :: w, b :: t => if low b = a then pmatch w t + 1 else 0
  | _, _ => 0
theorem pmatch_le : ∀ w t : Bs, pmatch w t ≤ w.length
  | [], t => by simp [pmatch]
  | a :: w, [] => by simp [pmatch]
  | a :: w, b :: t => by
    have := pmatch_le w t
    simp only [pmatch]
    split <;> simp <;> omega
theorem pmatch_app : ∀ (w t r : Bs), small t = w → pmatch w (t ++ r) = w.length
  | [], t, r, h => by simp [pmatch]
  | a :: w, [], r, h => by cases h
  | a :: w, b :: t, r, h => by
    simp only [small, List.map_cons, List.cons.injEq] at h
    simp only [List.cons_append, pmatch, if_pos h.1]
    rw [pmatch_app w t r h.2]
    rfl
theorem pmatch_full : ∀ (w t : Bs), pmatch w t = w.length → small (t.take w.length) = w
  | [], t, h => by simp [small]
  | a :: w, [], h => by simp [pmatch] at h
  | a :: w, b :: t, h => by
    simp only [pmatch] at h
    split at h
    · rename_i hb
      simp only [List.length_cons] at h ⊢
      rw [List.take_succ_cons]
      have := pmatch_full w t (by omega)
      simp only [small, List.map_cons] at this ⊢
      rw [hb, this]
    · simp at h
/-- The scheme's name and the place behind it; or the place of the fault. -/
def schemeP (t : Bs) : Except Nat (Bs × Nat) :=
  if pmatch httpW t = 7 then .ok (t.take 4, 7) else if pmatch httpsW t = 8 then .ok (t.take 5, 8) else .error (max (pmatch httpW t) (pmatch httpsW t))
def okS (s : Bs) : Prop := small s = [104, 116, 116, 112] ∨ small s = [104, 116, 116, 112, 115]
instance (s : Bs) : Decidable (okS s) := by unfold okS; infer_instance
theorem schemeP_write {s : Bs} (h : okS s) (r : Bs) : schemeP (s ++ [58, 47, 47] ++ r) = .ok (s, s.length + 3) := by
  have hsm : small (s ++ [58, 47, 47]) = small s ++ [58, 47, 47] := by simp [small, low, isUp]
  rcases h with h | h
  · have hl : s.length = 4 := by have := congrArg List.length h; simpa [small] using this
    have h1 : pmatch httpW (s ++ [58, 47, 47] ++ r) = 7 := pmatch_app httpW (s ++ [58, 47, 47]) r (by rw [hsm, h]; rfl)
    unfold schemeP
    rw [if_pos h1, List.append_assoc, ← hl, List.take_left, hl]
  · have hl : s.length = 5 := by have := congrArg List.length h; simpa [small] using this
    have h2 : pmatch httpsW (s ++ [58, 47, 47] ++ r) = 8 := pmatch_app httpsW (s ++ [58, 47, 47]) r (by rw [hsm, h]; rfl)
    have h1 : ¬ pmatch httpW (s ++ [58, 47, 47] ++ r) = 7 := fun e => by
      have e1 := pmatch_full httpW _ e
      have e2 := congrArg (fun x => x[4]?) e1
      rw [List.append_assoc] at e2
      simp only [small, List.getElem?_map, List.getElem?_take, show httpW.length = 7 from rfl] at e2
      rw [if_pos (by omega), List.getElem?_append_left (by omega)] at e2
      have e3 := congrArg (fun x => x[4]?) h
      simp only [small, List.getElem?_map] at e3
      rw [e3] at e2
      exact absurd e2 (by decide)
    unfold schemeP
    rw [if_neg h1, if_pos h2, List.append_assoc, ← hl, List.take_left, hl]
def endP (r : Bs) : Prop := r = [] ∨ ∃ c r', r = c :: r' ∧ ([47, 63, 35] : Bs).contains c = true
instance (r : Bs) : Decidable (endP r) := match r with
  | [] => .isTrue (.inl rfl)
  | c :: r' => if h : ([47, 63, 35] : Bs).contains c = true then .isTrue (.inr ⟨c, r', rfl, h⟩) else .isFalse (by
      rintro (e | ⟨c', r2, e, hc⟩)
      · cases e
      · cases e; exact h hc)
/-- Host, port, what is behind them, and its place. -/
def placeP (r : Bs) (p : Nat) : Except Nat (Bs × Bs × Bs × Nat) :=
  if isHostB (r.takeWhile hostB) = true then
    match r.drop (r.takeWhile hostB).length with
    | 58 :: q => if portB (q.takeWhile isDig) = 0 then .error (p + (r.takeWhile hostB).length + 1)
      else if endP (q.drop (q.takeWhile isDig).length) then .ok (r.takeWhile hostB, q.takeWhile isDig, q.drop (q.takeWhile isDig).length, p + (r.takeWhile hostB).length + 1 + (q.takeWhile isDig).length)
      else .error (p + (r.takeWhile hostB).length + 1 + (q.takeWhile isDig).length)
    | q => if endP q then .ok (r.takeWhile hostB, [], q, p + (r.takeWhile hostB).length) else .error (p + (r.takeWhile hostB).length)
  else .error p
theorem takeWhile_app {p : UInt8 → Bool} {s r : Bs} (h : s.all p = true) (hr : r = [] ∨ ∃ c r', r = c :: r' ∧ p c = false) : (s ++ r).takeWhile p = s := by
  rw [List.all_eq_true] at h
  rw [List.takeWhile_append_of_pos h]
  rcases hr with rfl | ⟨c, r', rfl, hc⟩
  · simp
  · rw [List.takeWhile_cons_of_neg (by rw [hc]; decide), List.append_nil]
theorem behind_end (a : Adr) (hp : a.path = [] ∨ a.path[0]? = some 47) : endP (behindA a) := by
  unfold behindA
  rcases hp with hp | hp
  · rw [hp, List.nil_append]
    unfold qPart
    split
    · exact .inr ⟨63, _, rfl, by decide⟩
    · rcases fPart_end a with h | ⟨c, r, h, hc⟩
      · exact .inl (by simp [h])
      · refine .inr ⟨c, r, by simp [h], ?_⟩
        have : c = 35 := by simpa using hc
        rw [this]; decide
  · cases hpp : a.path with
    | nil => rw [hpp] at hp; cases hp
    | cons c r =>
      rw [hpp] at hp
      have : c = 47 := by simpa using hp
      exact .inr ⟨c, _, by simp only [List.cons_append]; rfl, by rw [this]; decide⟩
end Go.Proofs.YtglonkenckigiaaGreatDoor
