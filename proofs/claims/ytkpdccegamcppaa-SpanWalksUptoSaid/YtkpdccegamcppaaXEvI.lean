/- Words on Ev and on what is a set. -/
import Derived.Test.YtkpdccegamcppaaXAlike
namespace Go.Proofs.Ytkpdccegamcppaa.PSpan
open Go.RowKit Go.Proofs.YtkpdccegamcppaaW.PrintWords Go.Proofs.YtkpdccegamcppaaW.PrintLast Go.Proofs.YtkpdccegamcppaaW.PrintMore Go.Proofs.Ytkpdccegamcppaa.SpanP
set_option linter.unusedVariables false
set_option linter.unusedSimpArgs false

abbrev Sn := S50
theorem Ev.ite_t {α : Type} {g f : Nat → Option α} {r : α} (h : Ev g r) : Ev (fun k => if true = true then g k else f k) r := Ev.congr (fun k => if_pos rfl) h
theorem Ev.ite_f {α : Type} {g f : Nat → Option α} {r : α} (h : Ev f r) : Ev (fun k => if false = true then g k else f k) r := Ev.congr (fun k => if_neg (by decide)) h
theorem mem_prs_cons (x : Sn) (l : List Sn) (p : Int) : Mem (prs (x :: l)) p ↔ (x.f0 ≤ p ∧ p ≤ x.f1) ∨ Mem (prs l) p := mem_cons
theorem isB_iff {l : List Sp} : isB l = true ↔ Rise 0 l ∧ l.length ≤ 65536 := by
  unfold isB
  rw [Bool.and_eq_true, decide_eq_true_eq, decide_eq_true_eq]
theorem isB_may {l : List Sn} (h : isB (prs l) = true) : mayL l = true ∧ l.length ≤ 65536 := by
  obtain ⟨h1, h2⟩ := isB_iff.1 h
  rw [prs_len] at h2
  refine ⟨List.all_eq_true.2 fun x hx => ?_, h2⟩
  have := h1.ge (pr x) (List.mem_map_of_mem hx)
  exact decide_eq_true ⟨by omega, this.2.1, this.2.2⟩


theorem may_at {l : List Sn} (hm : mayL l = true) (i : Nat) (h : i < l.length) : 0 ≤ l[i].f0 ∧ l[i].f0 ≤ l[i].f1 ∧ l[i].f1 ≤ 1114111 := mayL_of hm _ (List.getElem_mem h)


end Go.Proofs.Ytkpdccegamcppaa.PSpan
