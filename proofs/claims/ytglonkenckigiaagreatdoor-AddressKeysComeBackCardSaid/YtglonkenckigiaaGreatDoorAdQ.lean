/-
  ADDRESS, IN PLAIN LEAN: what is written is read, what is read is written.
-/
import Derived.Test.YtglonkenckigiaaGreatDoorAdP
set_option linter.unusedSimpArgs false
set_option linter.unusedVariables false
namespace Go.Proofs.YtglonkenckigiaaGreatDoor
open Go.Lw
set_option maxRecDepth 100000
set_option maxHeartbeats 1000000

theorem host_end {r : Bs} (h : endP r) : r = [] ∨ ∃ c r', r = c :: r' ∧ hostB c = false := by
  rcases h with h | ⟨c, r', rfl, hc⟩
  · exact .inl h
  · refine .inr ⟨c, r', rfl, ?_⟩
    have : c = 47 ∨ c = 63 ∨ c = 35 := by simpa using hc
    rcases this with e | e | e <;> rw [e] <;> decide
theorem dig_end {r : Bs} (h : endP r) : r = [] ∨ ∃ c r', r = c :: r' ∧ isDig c = false := by
  rcases h with h | ⟨c, r', rfl, hc⟩
  · exact .inl h
  · refine .inr ⟨c, r', rfl, ?_⟩
    have : c = 47 ∨ c = 63 ∨ c = 35 := by simpa using hc
    rcases this with e | e | e <;> rw [e] <;> decide
theorem placeP_write (h q : Bs) (r : Bs) (p : Nat) (hh : isHostB h = true) (hq : q = [] ∨ portB q ≠ 0) (hr : endP r) :
    placeP (h ++ (if q = [] then [] else 58 :: q) ++ r) p = .ok (h, q, r, p + h.length + (if q = [] then [] else 58 :: q).length) := by
  rcases hq with rfl | hq
  · have e1 : (h ++ (if ([] : Bs) = [] then [] else 58 :: []) ++ r).takeWhile hostB = h := by
      rw [if_pos rfl, List.append_nil]
      exact takeWhile_app (host_bytes hh) (host_end hr)
    unfold placeP
    rw [e1, if_pos hh]
    simp only [if_true, List.append_nil, List.drop_left]
    split
    · rcases hr with he | ⟨c, r', he, hc⟩
      · cases he
      · cases he; exact absurd hc (by decide)
    · rw [if_pos hr]; rfl
  · obtain ⟨h1, h2⟩ := port_digits hq
    have hne : q ≠ [] := fun e => by rw [e] at h1; simp at h1
    have e1 : (h ++ (if q = [] then [] else 58 :: q) ++ r).takeWhile hostB = h := by
      rw [if_neg hne, List.append_assoc]
      exact takeWhile_app (host_bytes hh) (.inr ⟨58, q ++ r, rfl, by decide⟩)
    have e2 : (q ++ r).takeWhile isDig = q := takeWhile_app h2 (dig_end hr)
    unfold placeP
    rw [e1, if_pos hh, if_neg hne, List.append_assoc, List.drop_left, List.cons_append]
    simp only [e2, List.drop_left]
    rw [if_neg hq, if_pos hr]
    simp only [List.length_cons]
    congr 4
    omega
/-- An address that holds together, its length set aside. -/
structure ChkA (a : Adr) : Prop where
  sch : okS a.scheme
  host : isHostB a.host = true
  port : a.port = [] ∨ portB a.port ≠ 0
  slash : a.path = [] ∨ a.path[0]? = some 47
  path : isRow [63] a.path
  query : isRow [] a.query
  frag : isRow [] a.frag
  hasQ : a.query ≠ [] → a.hasQ = true
  hasF : a.frag ≠ [] → a.hasF = true
def readP (t : Bs) : Except Nat Adr :=
  match schemeP t with
  | .error n => .error n
  | .ok (s, n) => match placeP (t.drop n) n with
    | .error k => .error k
    | .ok (h, p, r, k) => match restP r k with
      | .error k => .error k
      | .ok (pa, q, hq, f, hf) => .ok ⟨s, h, p, pa, q, hq, f, hf⟩
theorem readP_write (a : Adr) (h : ChkA a) : readP (writeA a) = .ok a := by
  have e0 : writeA a = a.scheme ++ [58, 47, 47] ++ (a.host ++ pPart a ++ behindA a) := by simp [writeA]
  have e1 := schemeP_write h.sch (a.host ++ pPart a ++ behindA a)
  have e2 := placeP_write a.host a.port (behindA a) (a.scheme.length + 3) h.host h.port (behind_end a h.slash)
  have e3 : (a.scheme ++ [58, 47, 47] ++ (a.host ++ pPart a ++ behindA a)).drop (a.scheme.length + 3) = a.host ++ pPart a ++ behindA a := by
    have : a.scheme.length + 3 = (a.scheme ++ [58, 47, 47]).length := by simp
    rw [this, List.drop_left]
  unfold readP
  rw [e0, e1]
  simp only [e3]
  unfold pPart
  rw [e2]
  simp only
  rw [restP_write a h.path h.query h.frag h.hasQ h.hasF]

/-! What was read. -/
theorem fragP_back {r : Bs} {p : Nat} {f : Bs} {hf : Bool} (hr : r = [] ∨ ∃ c r', r = c :: r' ∧ ([35] : Bs).contains c = true) (h : fragP r p = .ok (f, hf)) : isRow [] f ∧ (f ≠ [] → hf = true) ∧ (if hf = true then 35 :: f else []) = r := by
  rcases hr with rfl | ⟨c, r', rfl, hc⟩
  · cases h
    exact ⟨rfl, fun e => absurd rfl e, rfl⟩
  · obtain rfl : c = 35 := by simpa using hc
    simp only [fragP] at h
    split at h
    · rename_i h2
      cases h
      obtain ⟨i1, i2⟩ := rowE_take (w := []) (w2 := []) (fun c hc => .inl hc) r' (rowE [] r').1 (Prod.ext rfl h2)
      have hle := rowE_le [] r'
      have hd : r'.drop (rowE [] r').1 = [] := i2.resolve_right (by rintro ⟨c, r2, _, hc⟩; cases hc)
      have ht : r'.take (rowE [] r').1 = r' := by
        have := List.take_append_drop (rowE [] r').1 r'
        rwa [hd, List.append_nil] at this
      refine ⟨?_, fun _ => rfl, by rw [if_pos rfl, ht]⟩
      unfold isRow
      rw [i1, List.length_take, Nat.min_eq_left hle]
    · cases h
theorem queryP_back {r : Bs} {p : Nat} {q : Bs} {hq : Bool} {f : Bs} {hf : Bool} (hr : r = [] ∨ ∃ c r', r = c :: r' ∧ ([63, 35] : Bs).contains c = true) (h : queryP r p = .ok (q, hq, f, hf)) :
    isRow [] q ∧ (q ≠ [] → hq = true) ∧ isRow [] f ∧ (f ≠ [] → hf = true) ∧ (if hq = true then 63 :: q else []) ++ (if hf = true then 35 :: f else []) = r := by
  unfold queryP at h
  split at h
  · rename_i r1
    split at h
    · rename_i h2
      obtain ⟨i1, i2⟩ := rowE_take (w := []) (w2 := [35]) (fun c hc => by cases hc) r1 (rowE [35] r1).1 (Prod.ext rfl h2)
      have hle := rowE_le [35] r1
      cases hfp : fragP (r1.drop (rowE [35] r1).1) (p + 1 + (rowE [35] r1).1) with
      | error k => rw [hfp] at h; cases h
      | ok x =>
        obtain ⟨f', hf'⟩ := x
        rw [hfp] at h
        cases h
        obtain ⟨j1, j2, j3⟩ := fragP_back i2 hfp
        refine ⟨?_, fun _ => rfl, j1, j2, ?_⟩
        · unfold isRow
          rw [i1, List.length_take, Nat.min_eq_left hle]
        · rw [if_pos rfl, j3, List.cons_append, List.take_append_drop]
    · cases h
  · rename_i hne
    cases hfp : fragP r p with
    | error k => rw [hfp] at h; cases h
    | ok x =>
      obtain ⟨f', hf'⟩ := x
      rw [hfp] at h
      cases h
      have hr' : r = [] ∨ ∃ c r', r = c :: r' ∧ ([35] : Bs).contains c = true := by
        rcases hr with e | ⟨c, r', rfl, hc⟩
        · exact .inl e
        · have : c = 63 ∨ c = 35 := by simpa using hc
          rcases this with e | e
          · exact absurd (by rw [e]) (hne r')
          · exact .inr ⟨c, r', rfl, by rw [e]; decide⟩
      obtain ⟨j1, j2, j3⟩ := fragP_back hr' hfp
      exact ⟨rfl, fun e => absurd rfl e, j1, j2, by simpa using j3⟩
theorem restP_back {r : Bs} {p : Nat} {pa q : Bs} {hq : Bool} {f : Bs} {hf : Bool} (hr : endP r) (h : restP r p = .ok (pa, q, hq, f, hf)) :
    (pa = [] ∨ pa[0]? = some 47) ∧ isRow [63] pa ∧ isRow [] q ∧ (q ≠ [] → hq = true) ∧ isRow [] f ∧ (f ≠ [] → hf = true) ∧ pa ++ (if hq = true then 63 :: q else []) ++ (if hf = true then 35 :: f else []) = r := by
  unfold restP at h
  split at h
  · rename_i h2
    obtain ⟨i1, i2⟩ := rowE_take (w := [63]) (w2 := [63, 35]) (fun c hc => .inl (by
      have : c = 63 := by simpa using hc
      rw [this]; decide)) r (rowE [63, 35] r).1 (Prod.ext rfl h2)
    have hle := rowE_le [63, 35] r
    cases hfp : queryP (r.drop (rowE [63, 35] r).1) (p + (rowE [63, 35] r).1) with
    | error k => rw [hfp] at h; cases h
    | ok x =>
      obtain ⟨q', hq', f', hf'⟩ := x
      rw [hfp] at h
      cases h
      obtain ⟨j1, j2, j3, j4, j5⟩ := queryP_back i2 hfp
      refine ⟨?_, ?_, j1, j2, j3, j4, ?_⟩
      · rcases hr with rfl | ⟨c, r', rfl, hc⟩
        · exact .inl (by simp)
        · have : c = 47 ∨ c = 63 ∨ c = 35 := by simpa using hc
          rcases this with e | e | e
          · subst e
            by_cases h0 : (rowE [63, 35] (47 :: r')).1 = 0
            · exact .inl (by rw [h0]; rfl)
            · right
              rw [List.getElem?_take, if_pos (by omega)]
              rfl
          · left
            have : (rowE [63, 35] (c :: r')).1 = 0 := by rw [rowE.eq_def]; simp [e]
            rw [this]; rfl
          · left
            have : (rowE [63, 35] (c :: r')).1 = 0 := by rw [rowE.eq_def]; simp [e]
            rw [this]; rfl
      · unfold isRow
        rw [i1, List.length_take, Nat.min_eq_left hle]
      · rw [List.append_assoc, j5, List.take_append_drop]
  · cases h
theorem drop_takeWhile (p : UInt8 → Bool) (s : Bs) : s.takeWhile p ++ s.drop (s.takeWhile p).length = s := by
  conv => rhs; rw [← List.takeWhile_append_dropWhile (p := p) (l := s)]
  congr 1
  have := List.takeWhile_append_dropWhile (p := p) (l := s)
  conv => lhs; rw [← this]
  rw [this, ← this, List.takeWhile_append_dropWhile]
  conv => lhs; arg 2; rw [← this]
  rw [List.drop_left]
theorem placeP_back {r : Bs} {p : Nat} {h q r2 : Bs} {k : Nat} (he : placeP r p = .ok (h, q, r2, k)) :
    isHostB h = true ∧ (q = [] ∨ portB q ≠ 0) ∧ endP r2 ∧ h ++ (if q = [] then [] else 58 :: q) ++ r2 = r := by
  unfold placeP at he
  split at he
  · rename_i hh
    have hd := drop_takeWhile hostB r
    split at he
    · rename_i q' hq'
      split at he
      · cases he
      · rename_i hp
        split at he
        · rename_i hend
          cases he
          have hne : q'.takeWhile isDig ≠ [] := fun e => hp (by rw [e]; rfl)
          refine ⟨hh, .inr hp, hend, ?_⟩
          rw [if_neg hne, List.append_assoc, List.cons_append, drop_takeWhile, ← hq', hd]
        · cases he
    · split at he
      · rename_i hend
        cases he
        refine ⟨hh, .inl rfl, hend, ?_⟩
        rw [if_pos rfl, List.append_nil, hd]
      · cases he
  · cases he
theorem low_sign {b c : UInt8} (h : low b = c) (hc : ¬ (97 ≤ c.toNat ∧ c.toNat ≤ 122)) : b = c := by
  unfold low at h
  split at h
  · rename_i hu
    exfalso
    apply hc
    rw [← h]
    simp [isUp] at hu
    simp
    omega
  · exact h
theorem sign3 {s : Bs} (h : small s = [58, 47, 47]) : s = [58, 47, 47] := by
  match s, h with
  | [a, b, c], h =>
    simp only [small, List.map_cons, List.map_nil, List.cons.injEq, and_true] at h
    rw [low_sign h.1 (by decide), low_sign h.2.1 (by decide), low_sign h.2.2 (by decide)]
  | [], h => cases h
  | [_], h => simp [small] at h
  | [_, _], h => simp [small] at h
  | _ :: _ :: _ :: _ :: _, h => simp [small] at h
theorem scheme_part {t : Bs} {w : Bs} {k : Nat} (h : small (t.take (k + 3)) = w ++ [58, 47, 47]) (hw : w.length = k) : small (t.take k) = w ∧ t.take k ++ [58, 47, 47] ++ t.drop (k + 3) = t := by
  rw [List.take_add] at h
  simp only [small, List.map_append] at h
  have hl : ((t.take k).map low).length = w.length := by
    have := congrArg List.length h
    simp only [List.length_append, List.length_map, List.length_take, List.length_drop, List.length_cons, List.length_nil] at this ⊢
    omega
  obtain ⟨h1, h2⟩ := List.append_inj h hl
  refine ⟨h1, ?_⟩
  have h3 := sign3 h2
  rw [← h3, ← List.take_add, List.take_append_drop]
theorem schemeP_back {t s : Bs} {n : Nat} (h : schemeP t = .ok (s, n)) : okS s ∧ s ++ [58, 47, 47] ++ t.drop n = t := by
  unfold schemeP at h
  split at h
  · rename_i h1
    cases h
    obtain ⟨e1, e2⟩ := scheme_part (k := 4) (w := [104, 116, 116, 112]) (pmatch_full httpW t h1) rfl
    exact ⟨.inl e1, e2⟩
  · split at h
    · rename_i h1
      cases h
      obtain ⟨e1, e2⟩ := scheme_part (k := 5) (w := [104, 116, 116, 112, 115]) (pmatch_full httpsW t h1) rfl
      exact ⟨.inr e1, e2⟩
    · cases h
theorem readP_back {t : Bs} {a : Adr} (h : readP t = .ok a) : ChkA a ∧ writeA a = t := by
  unfold readP at h
  split at h
  · cases h
  · rename_i s n hs
    obtain ⟨h1, h2⟩ := schemeP_back hs
    split at h
    · cases h
    · rename_i hh p r k hp
      obtain ⟨h3, h4, h5, h6⟩ := placeP_back hp
      split at h
      · cases h
      · rename_i pa q hq f hf hr
        obtain ⟨h7, h8, h9, h10, h11, h12, h13⟩ := restP_back h5 hr
        cases h
        refine ⟨⟨h1, h3, h4, h7, h8, h9, h11, h10, h12⟩, ?_⟩
        simp only [writeA, pPart, behindA, qPart, fPart]
        rw [h13, List.append_assoc, List.append_assoc, ← List.append_assoc hh, h6]
        exact h2
end Go.Proofs.YtglonkenckigiaaGreatDoor
