/-
  PAGE: the scanner: attributes. (WITH run_drawN.)
-/
import Derived.Test.YtgebkjngnfdeiaaPgTag
set_option linter.unusedSimpArgs false
set_option linter.unusedVariables false
namespace Go.Proofs.Ytgebkjngnfdeiaa
open Go.Lw
set_option maxRecDepth 100000
set_option maxHeartbeats 1000000

structure Atr where
  name : Bs
  val : Bs
  fr : Nat
  to : Nat
  has : Bool
abbrev Atr.none : Atr := ⟨[], [], 0, 0, false⟩
abbrev encA (a : Atr) : List D := [str a.name, str a.val, int a.fr, int a.to, tru a.has]
def att (l : Bs) (i : Nat) : Atr × Bool × Nat :=
  if skip isBl l i = i then (.none, false, i)
  else if nm inNameB l (skip isBl l i) = skip isBl l i then (.none, false, skip isBl l i)
  else if l[nm inNameB l (skip isBl l i)]? = some 61 then
    if (val l (nm inNameB l (skip isBl l i) + 1)).2.1 = true then
      (⟨small ((l.take (nm inNameB l (skip isBl l i))).drop (skip isBl l i)), meant ((l.take (val l (nm inNameB l (skip isBl l i) + 1)).1.2).drop (val l (nm inNameB l (skip isBl l i) + 1)).1.1), (val l (nm inNameB l (skip isBl l i) + 1)).1.1, (val l (nm inNameB l (skip isBl l i) + 1)).1.2, true⟩, true, (val l (nm inNameB l (skip isBl l i) + 1)).2.2)
    else (⟨small ((l.take (nm inNameB l (skip isBl l i))).drop (skip isBl l i)), [], (val l (nm inNameB l (skip isBl l i) + 1)).1.1, (val l (nm inNameB l (skip isBl l i) + 1)).1.2, false⟩, false, (val l (nm inNameB l (skip isBl l i) + 1)).2.2)
  else (⟨small ((l.take (nm inNameB l (skip isBl l i))).drop (skip isBl l i)), [], nm inNameB l (skip isBl l i), nm inNameB l (skip isBl l i), false⟩, true, nm inNameB l (skip isBl l i))
theorem val_le (l : Bs) (i : Nat) (hi : i ≤ l.length) : (val l i).2.2 ≤ l.length ∧ i ≤ (val l i).2.2 ∧ ((val l i).2.1 = true → i ≤ (val l i).1.1 ∧ (val l i).1.1 ≤ (val l i).1.2 ∧ (val l i).1.2 ≤ (val l i).2.2) := by
  have h1 := skip_ge inValB l i
  have h2 := skip_le inValB l i hi
  have h3 := indexByte_lt (l.drop (i + 1)) (l[i]?.getD 0)
  simp only [List.length_drop] at h3
  unfold val
  split
  · rename_i h
    have : i < l.length := by rcases h with h | h <;> exact (List.getElem?_eq_some_iff.1 h).1
    split
    · simp; omega
    · simp; omega
  · split <;> simp <;> omega
@[simp] theorem small_len (l : Bs) : (small l).length = l.length := by simp [small]
@[simp] theorem small_emp (l : Bs) : (small l).isEmpty = l.isEmpty := by cases l <;> rfl
@[simp] theorem small_nil (l : Bs) : small l = [] ↔ l = [] := by cases l <;> simp [small]
theorem attribute_ok (l : Bs) (i : Nat) (hi : i ≤ l.length) (hm : l.length ≤ 200000) :
    FnMem Try.prog 85 [.bp 100000 0] (scn l i) (.d (.tup [.agg (encA (att l i).1), tru (att l i).2.1])) (scn l (att l i).2.2) := by
  refine fnMem Try.func85 rfl (by kernel_rfl) Try.ntmps85 _ rfl (by simp) fun C hc => ?_
  have h1 := skip_ge isBl l i
  have h2 := skip_le isBl l i hi
  have hs := some_ok isBl _ blank_ok l i hi hm
  unfold att
  generalize skip isBl l i = b at h1 h2 hs ⊢
  have h3 := nm_ge inNameB l b
  have h4 := nm_le inNameB l b h2
  have hn := name_ok inNameB _ inName_ok l b h2 hm
  generalize nm inNameB l b = e at h3 h4 hn ⊢
  have hsm := small_ok ((l.take e).drop b) (by simp; omega)
  have hq := has_ok l [61] e h4 hm
  rw [pre_one] at hq
  repeat' (first | (first | refine ewp_seq ?_ | refine run_region hc (by simp; exact Ends.go) (by first | exact True.intro | omega | (simp; done) | (simp; omega) | (simp at *; omega)) ?_ | refine run_draw hc (by kernel_rfl) (by kernel_rfl) (by simp; exact Ends.go) (by first | exact True.intro | omega | (simp; done) | (simp; omega) | (simp at *; omega)) ?_ | refine ewp_scope ?_ | refine scopeQ_normal ?_ | refine scopeQ_ret ?_ | refine scopeQ_exit ?_ | refine ewp_skip ?_ | refine ewp_block ?_ | refine ewp_exit ?_ | refine ewp_label ?_ | refine thenQ_normal ?_ | refine thenQ_ret ?_ | refine thenQ_exit ?_ | refine blockQ_normal ?_ | refine blockQ_ret ?_ | refine blockQ_here ?_ | refine blockQ_there (by decide) ?_ | refine ewp_ret ?_ | refine opsW_nil ?_ | refine quietW_nil ?_ | (refine run_cond (by simp; exact Gives.mk) (fun hb => ?_) (fun hb => ?_) <;> (try simp at hb)) | fail) | (first | refine run_callW hc (by simp; exact Gives.mk) (by simp; exact Gives.mk) (by simp; exact Gives.mk) (by simp; exact Gives.mk) (by simp; exact Gives.mk) (fun _ => by first | exact hq | exact hsm) (by simp) (by simp) ?_ | refine run_callQ hc (by simp; exact Gives.mk) (by simp; exact Gives.mk) (by simp; exact Gives.mk) (by simp; exact Gives.mk) (by simp; exact Gives.mk) (fun _ => by first | exact hq | exact hsm) (by simp) (by simp) ?_ | refine run_ops hc (by simp; first | exact Ends.go | exact Ends.halt) (by decide) (by first | exact True.intro | omega | (simp; done) | (simp; omega) | (simp at *; omega)) ?_ | refine run_quiet hc (by simp; first | exact Ends.go | exact Ends.halt) (by decide) (by first | exact True.intro | omega | (simp; done) | (simp; omega) | (simp at *; omega)) ?_ | refine run_regionW hc (by simp; exact Ends.halt) (by first | exact True.intro | omega | (simp; done) | (simp; omega) | (simp at *; omega)) ?_ | refine run_drawN hc (by kernel_rfl) (by decide) (by kernel_rfl) (by simp; exact Ends.halt) (by first | exact True.intro | omega | (simp; done) | (simp; omega) | (simp at *; omega)) ?_ | fail) | (first | refine run_callM ([(100000, 100000)]) (hs) hc (by simp; exact Gives.mk) (by simp; exact Gives.mk) (by simp; exact Gives.mk) (by simp; exact Gives.mk) (by simp; exact Gives.mk) rfl (by simp; exact Gives.mk) (by simp; exact Gives.mk) rfl (by simp) (by simp) (by simp; exact Gives.mk) (by simp; exact Gives.mk) ?_ | fail) | (first | refine run_callM ([(100000, 100000)]) (hn) hc (by simp; exact Gives.mk) (by simp; exact Gives.mk) (by simp; exact Gives.mk) (by simp; exact Gives.mk) (by simp; exact Gives.mk) rfl (by simp; exact Gives.mk) (by simp; exact Gives.mk) rfl (by simp) (by simp) (by simp; exact Gives.mk) (by simp; exact Gives.mk) ?_ | fail))
  · rw [if_pos (by omega)]
    (refine run_leaveM [100000] hc (le_end rfl) (by simp; exact Gives.mk) (by simp; exact Gives.mk) (by first | (simp; done) | (simp; omega)) ?_)
    (first | (simp; done) | (simp; omega))
  · rw [if_neg (by omega), if_pos (by omega)]
    (refine run_leaveM [100000] hc (le_end rfl) (by simp; exact Gives.mk) (by simp; exact Gives.mk) (by first | (simp; done) | (simp; omega)) ?_)
    (first | (simp; done) | (simp; omega))
  · rw [if_neg (by omega), if_neg (by omega)]
    (refine run_drawT 10 hc (by kernel_rfl) (by kernel_rfl) ?_; simp only [List.take_succ_cons, List.take_zero, List.drop_succ_cons, List.drop_zero])
    repeat' (first | (first | refine ewp_seq ?_ | refine run_region hc (by simp; exact Ends.go) (by first | exact True.intro | omega | (simp; done) | (simp; omega) | (simp at *; omega)) ?_ | refine run_draw hc (by kernel_rfl) (by kernel_rfl) (by simp; exact Ends.go) (by first | exact True.intro | omega | (simp; done) | (simp; omega) | (simp at *; omega)) ?_ | refine ewp_scope ?_ | refine scopeQ_normal ?_ | refine scopeQ_ret ?_ | refine scopeQ_exit ?_ | refine ewp_skip ?_ | refine ewp_block ?_ | refine ewp_exit ?_ | refine ewp_label ?_ | refine thenQ_normal ?_ | refine thenQ_ret ?_ | refine thenQ_exit ?_ | refine blockQ_normal ?_ | refine blockQ_ret ?_ | refine blockQ_here ?_ | refine blockQ_there (by decide) ?_ | refine ewp_ret ?_ | refine opsW_nil ?_ | refine quietW_nil ?_ | (refine run_cond (by simp; exact Gives.mk) (fun hb => ?_) (fun hb => ?_) <;> (try simp at hb)) | fail) | (first | refine run_callW hc (by simp; exact Gives.mk) (by simp; exact Gives.mk) (by simp; exact Gives.mk) (by simp; exact Gives.mk) (by simp; exact Gives.mk) (fun _ => by first | exact hq) (by simp) (by simp) ?_ | refine run_callQ hc (by simp; exact Gives.mk) (by simp; exact Gives.mk) (by simp; exact Gives.mk) (by simp; exact Gives.mk) (by simp; exact Gives.mk) (fun _ => by first | exact hq) (by simp) (by simp) ?_ | refine run_ops hc (by simp; first | exact Ends.go | exact Ends.halt) (by decide) (by first | exact True.intro | omega | (simp; done) | (simp; omega) | (simp at *; omega)) ?_ | refine run_quiet hc (by simp; first | exact Ends.go | exact Ends.halt) (by decide) (by first | exact True.intro | omega | (simp; done) | (simp; omega) | (simp at *; omega)) ?_ | refine run_regionW hc (by simp; exact Ends.halt) (by first | exact True.intro | omega | (simp; done) | (simp; omega) | (simp at *; omega)) ?_ | refine run_drawN hc (by kernel_rfl) (by decide) (by kernel_rfl) (by simp; exact Ends.halt) (by first | exact True.intro | omega | (simp; done) | (simp; omega) | (simp at *; omega)) ?_ | fail))
    · have hlt : e < l.length := (List.getElem?_eq_some_iff.1 hb).1
      rw [if_pos hb]
      have hv := value_ok l (e + 1) (by omega) hm
      have hle := val_le l (e + 1) (by omega)
      generalize val l (e + 1) = v at hv hle ⊢
      obtain ⟨⟨f, t⟩, o, q⟩ := v
      simp only at hv hle ⊢
      repeat' (first | (first | refine ewp_seq ?_ | refine run_region hc (by simp; exact Ends.go) (by first | exact True.intro | omega | (simp; done) | (simp; omega) | (simp at *; omega)) ?_ | refine run_draw hc (by kernel_rfl) (by kernel_rfl) (by simp; exact Ends.go) (by first | exact True.intro | omega | (simp; done) | (simp; omega) | (simp at *; omega)) ?_ | refine ewp_scope ?_ | refine scopeQ_normal ?_ | refine scopeQ_ret ?_ | refine scopeQ_exit ?_ | refine ewp_skip ?_ | refine ewp_block ?_ | refine ewp_exit ?_ | refine ewp_label ?_ | refine thenQ_normal ?_ | refine thenQ_ret ?_ | refine thenQ_exit ?_ | refine blockQ_normal ?_ | refine blockQ_ret ?_ | refine blockQ_here ?_ | refine blockQ_there (by decide) ?_ | refine ewp_ret ?_ | refine opsW_nil ?_ | refine quietW_nil ?_ | (refine run_cond (by simp; exact Gives.mk) (fun hb => ?_) (fun hb => ?_) <;> (try simp at hb)) | fail) | (first | refine run_callW hc (by simp; exact Gives.mk) (by simp; exact Gives.mk) (by simp; exact Gives.mk) (by simp; exact Gives.mk) (by simp; exact Gives.mk) (fun _ => by first | exact trivial) (by simp) (by simp) ?_ | refine run_callQ hc (by simp; exact Gives.mk) (by simp; exact Gives.mk) (by simp; exact Gives.mk) (by simp; exact Gives.mk) (by simp; exact Gives.mk) (fun _ => by first | exact trivial) (by simp) (by simp) ?_ | refine run_ops hc (by simp; first | exact Ends.go | exact Ends.halt) (by decide) (by first | exact True.intro | omega | (simp; done) | (simp; omega) | (simp at *; omega)) ?_ | refine run_quiet hc (by simp; first | exact Ends.go | exact Ends.halt) (by decide) (by first | exact True.intro | omega | (simp; done) | (simp; omega) | (simp at *; omega)) ?_ | refine run_regionW hc (by simp; exact Ends.halt) (by first | exact True.intro | omega | (simp; done) | (simp; omega) | (simp at *; omega)) ?_ | refine run_drawN hc (by kernel_rfl) (by decide) (by kernel_rfl) (by simp; exact Ends.halt) (by first | exact True.intro | omega | (simp; done) | (simp; omega) | (simp at *; omega)) ?_ | fail) | (first | refine run_callM ([(100000, 100000)]) (hv) hc (by simp; exact Gives.mk) (by simp; exact Gives.mk) (by simp; exact Gives.mk) (by simp; exact Gives.mk) (by simp; exact Gives.mk) rfl (by simp; exact Gives.mk) (by simp; exact Gives.mk) rfl (by simp) (by simp) (by simp; exact Gives.mk) (by simp; exact Gives.mk) ?_ | fail))
      · rw [if_neg (by simp [hb])]
        (refine run_leaveM [100000] hc (le_end rfl) (by simp; exact Gives.mk) (by simp; exact Gives.mk) (by first | (simp; done) | (simp; omega)) ?_)
        (first | (simp; done) | (simp; omega))
      · obtain ⟨h5, h6, h7⟩ := hle.2.2 hb
        have h8 := hle.1
        have hmt := meantP_ok ((l.take t).drop f) (by simp; omega)
        rw [if_pos hb]
        (refine run_drawT 13 hc (by kernel_rfl) (by kernel_rfl) ?_; simp only [List.take_succ_cons, List.take_zero, List.drop_succ_cons, List.drop_zero])
        repeat' (first | (first | refine ewp_seq ?_ | refine run_region hc (by simp; exact Ends.go) (by first | exact True.intro | omega | (simp; done) | (simp; omega) | (simp at *; omega)) ?_ | refine run_draw hc (by kernel_rfl) (by kernel_rfl) (by simp; exact Ends.go) (by first | exact True.intro | omega | (simp; done) | (simp; omega) | (simp at *; omega)) ?_ | refine ewp_scope ?_ | refine scopeQ_normal ?_ | refine scopeQ_ret ?_ | refine scopeQ_exit ?_ | refine ewp_skip ?_ | refine ewp_block ?_ | refine ewp_exit ?_ | refine ewp_label ?_ | refine thenQ_normal ?_ | refine thenQ_ret ?_ | refine thenQ_exit ?_ | refine blockQ_normal ?_ | refine blockQ_ret ?_ | refine blockQ_here ?_ | refine blockQ_there (by decide) ?_ | refine ewp_ret ?_ | refine opsW_nil ?_ | refine quietW_nil ?_ | (refine run_cond (by simp; exact Gives.mk) (fun hb => ?_) (fun hb => ?_) <;> (try simp at hb)) | fail) | (first | refine run_callW hc (by simp; exact Gives.mk) (by simp; exact Gives.mk) (by simp; exact Gives.mk) (by simp; exact Gives.mk) (by simp; exact Gives.mk) (fun _ => by first | exact hmt) (by simp) (by simp) ?_ | refine run_callQ hc (by simp; exact Gives.mk) (by simp; exact Gives.mk) (by simp; exact Gives.mk) (by simp; exact Gives.mk) (by simp; exact Gives.mk) (fun _ => by first | exact hmt) (by simp) (by simp) ?_ | refine run_ops hc (by simp; first | exact Ends.go | exact Ends.halt) (by decide) (by first | exact True.intro | omega | (simp; done) | (simp; omega) | (simp at *; omega)) ?_ | refine run_quiet hc (by simp; first | exact Ends.go | exact Ends.halt) (by decide) (by first | exact True.intro | omega | (simp; done) | (simp; omega) | (simp at *; omega)) ?_ | refine run_regionW hc (by simp; exact Ends.halt) (by first | exact True.intro | omega | (simp; done) | (simp; omega) | (simp at *; omega)) ?_ | refine run_drawN hc (by kernel_rfl) (by decide) (by kernel_rfl) (by simp; exact Ends.halt) (by first | exact True.intro | omega | (simp; done) | (simp; omega) | (simp at *; omega)) ?_ | fail))
        (refine run_leaveM [100000] hc (le_end rfl) (by simp; exact Gives.mk) (by simp; exact Gives.mk) (by first | (simp; done) | (simp; omega)) ?_)
        (first | (simp; done) | (simp; omega))
    · rw [if_neg hb]
      (refine run_leaveM [100000] hc (le_end rfl) (by simp; exact Gives.mk) (by simp; exact Gives.mk) (by first | (simp; done) | (simp; omega)) ?_)
      (first | (simp; done) | (simp; omega))
end Go.Proofs.Ytgebkjngnfdeiaa
