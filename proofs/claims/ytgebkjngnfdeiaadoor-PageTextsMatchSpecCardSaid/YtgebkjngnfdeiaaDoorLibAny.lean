/-
  strings.IndexAny, ContainsAny: where no byte of a string is in a set of ASCII bytes.
-/
import Derived.Shelf.Strings.IndexAnyAll
import Derived.Test.YtgebkjngnfdeiaaDoorLibP
set_option linter.unusedSimpArgs false
set_option linter.unusedVariables false
namespace Go.Proofs.YtgebkjngnfdeiaaDoor
open Go.Lw Go.RowKit
set_option maxRecDepth 100000
set_option maxHeartbeats 1000000

theorem dec_ascii (l : Bs) (i : Nat) (h : i < l.length) (ha : (l[i]?.getD 0).toNat < 128) : Utf8.decode (bs l) i = ((l[i]?.getD 0).toNat, 1) := by
  have e : (bs l)[i]'(by simpa using h) = l[i]?.getD 0 := by simp [h]; rfl
  rw [decode_ascii (bs l) i (by simpa using h) (by rw [e]; exact ha), e]
def Ascii (l : Bs) : Prop := ∀ i, i < l.length → (l[i]?.getD 0).toNat < 128
theorem indexByte_high {l : Bs} (h : ∀ b ∈ l, b.toNat < 128) {c : UInt8} (hc : 128 ≤ c.toNat) : Lib.indexByte l c = -1 := by
  induction l with
  | nil => rfl
  | cons b l ih =>
    have hb := h b (by simp)
    rw [Lib.indexByte, if_neg (by intro e; simp at e; subst e; omega), ih (fun b hb => h b (by simp [hb]))]
    rfl
theorem encode_high (r : Int) (h : 128 ≤ r) : ∃ e : Bs, Utf8.encode r = bs e ∧ 2 ≤ e.length ∧ e.length ≤ 4 ∧ 128 ≤ (e[e.length - 1]?.getD 0).toNat := by
  refine ⟨(Utf8.encode r).data.toList, rfl, ?_⟩
  have key : ∀ c : Nat, (128 + c % 64) % 256 = 128 + c % 64 := fun c => by omega
  unfold Utf8.encode
  simp only
  generalize hcc : (if Utf8.valid r = true then r.toNat else Utf8.runeError) = c
  have hc : 128 ≤ c := by
    subst hcc
    split
    · omega
    · decide
  rw [if_neg (by omega)]
  repeat' split
  all_goals simp [UInt8.toNat_ofNat']
  all_goals omega
theorem ascii_at {l : Bs} (ha : ∀ b ∈ l, b.toNat < 128) (i : Nat) : (l[i]?.getD (0 : UInt8)).toNat < 128 := by
  by_cases hi : i < l.length
  · have := ha l[i] (List.getElem_mem hi); simpa [hi] using this
  · simp [List.getElem?_eq_none (show l.length ≤ i by omega)]
theorem not_mem_index {s chars : Bs} (h : ∀ b ∈ s, b ∉ chars) : Lib.indexAny s chars = -1 := by
  induction s with
  | nil => rfl
  | cons b s ih =>
    have hb : chars.contains b = false := by simpa using h b (by simp)
    rw [Lib.indexAny, hb, ih (fun b hb => h b (by simp [hb]))]
    rfl
theorem index_none_mem {l : Bs} {c : UInt8} (h : c ∉ l) : Lib.indexByte l c = -1 := by
  have := Lib.contains_iff_indexByte l c
  have h2 : l.contains c = false := by simpa using h
  rw [h2] at this
  have h3 := Lib.indexByte_ge l c
  have h4 : ¬ 0 ≤ Lib.indexByte l c := by simpa using this.symm
  omega
theorem dec_high (s : Bs) (i : Nat) (h : i < s.length) (ha : 128 ≤ (s[i]?.getD (0 : UInt8)).toNat) : 128 ≤ (Utf8.decode (bs s) i).1 ∧ 1 ≤ (Utf8.decode (bs s) i).2 := by
  have e : (bs s)[i]'(by simpa using h) = s[i]?.getD 0 := by simp [h]; rfl
  exact decode_high (bs s) i (by simpa using h) (by rw [e]; exact ha)
end Go.Proofs.YtgebkjngnfdeiaaDoor
