/- The document's Next; Within. -/
import Derived.Test.YtkpdccegamcppaaXAsks
import Derived.Test.YtkpdccegamcppaaPSpanx13
import Derived.Test.YtkpdccegamcppaaPSpanx14
namespace Go.Proofs.Ytkpdccegamcppaa.PSpan
open Go.RowKit Go.Proofs.YtkpdccegamcppaaW.PrintWords Go.Proofs.YtkpdccegamcppaaW.PrintLast Go.Proofs.YtkpdccegamcppaaW.PrintMore Go.Proofs.Ytkpdccegamcppaa.SpanP
set_option linter.unusedVariables false
set_option linter.unusedSimpArgs false

theorem nextQ_ev (l : List Sn) (hl : l.length ≤ 16777216) (p : Int) : Ev (fun k => posternref07_Next.f k (l.map toR) p) (nxtP p l) := by
  have hml : (l.map toR).length = l.length := List.length_map ..
  have walk : ∀ d i, i + d = l.length → Ev (fun k => posternref07_Next.l0 k (l.map toR) p (i : Int)) (nxtP p (l.drop i)) := by
    intro d
    induction d with
    | zero =>
      intro i hi
      refine Ev.step (f := fun _ => some _) (fun k => ?_) (Ev.now _)
      simp only [posternref07_Next.l0]
      rw [if_neg (by omega), List.drop_of_length_le (by omega)]
      rfl
    | succ d ih =>
      intro i hi
      have hlt : i < l.length := by omega
      have hq := rdp_toR l i hlt
      have W1 := Aside0.mk (w64_succ i l.length hlt (by omega))
      have hd : nxtP p (l.drop i) = if p ≤ l[i].f0 then l[i].f0 else if p ≤ l[i].f1 then p else nxtP p (l.drop (i + 1)) := by rw [List.drop_eq_getElem_cons hlt]; rfl
      rw [hd]
      by_cases h1 : p ≤ l[i].f0
      · rw [if_pos h1]
        refine Ev.step (f := fun _ => some _) (fun k => ?_) (Ev.now _)
        simp only [posternref07_Next.l0]
        rw [hq, show (toR l[i]).f1 = l[i].f1 from rfl, show (toR l[i]).f0 = l[i].f0 from rfl, if_pos (by omega), if_pos (by omega), if_pos h1]
      · rw [if_neg h1]
        by_cases h2 : p ≤ l[i].f1
        · rw [if_pos h2]
          refine Ev.step (f := fun _ => some _) (fun k => ?_) (Ev.now _)
          simp only [posternref07_Next.l0]
          rw [hq, show (toR l[i]).f1 = l[i].f1 from rfl, show (toR l[i]).f0 = l[i].f0 from rfl, if_pos (by omega), if_pos (by omega), if_neg h1, if_pos h2]
        · rw [if_neg h2]
          refine Ev.step (fun k => ?_) (ih (i + 1) (by omega))
          simp only [posternref07_Next.l0]
          rw [hq, show (toR l[i]).f1 = l[i].f1 from rfl, show (toR l[i]).f0 = l[i].f0 from rfl, if_pos (by omega), if_pos (by omega), if_neg h1, if_neg h2, W1.out]
  have := walk l.length 0 (by omega)
  rw [List.drop_zero] at this
  exact this

instance : DecidableEq Sn := fun x y => decidable_of_iff (x.f0 = y.f0 ∧ x.f1 = y.f1) ⟨fun h => by cases x; cases y; simp only at h; rw [h.1, h.2], fun h => by rw [h]; exact ⟨rfl, rfl⟩⟩
theorem equal_ev (a b : List Sn) (ha : a.length ≤ 16777216) : Ev (fun k => api_Span_53.f k a b) (decide (a = b)) := by
  by_cases hab : a.length = b.length
  · have walk : ∀ d i, i + d = a.length → Ev (fun k => api_Span_53.l0 k a b (a.length : Int) (i : Int)) (decide (a.drop i = b.drop i)) := by
      intro d
      induction d with
      | zero =>
        intro i hi
        refine Ev.step (f := fun _ => some _) (fun k => ?_) (Ev.now _)
        simp only [api_Span_53.l0]
        rw [if_neg (by omega), List.drop_of_length_le (by omega), List.drop_of_length_le (by omega)]
        rfl
      | succ d ih =>
        intro i hi
        have hlt : i < a.length := by omega
        have hlt' : i < b.length := by omega
        have W1 := Aside0.mk (w64_succ i a.length hlt (by omega))
        have hd : decide (a.drop i = b.drop i) = (decide (a[i] = b[i]) && decide (a.drop (i + 1) = b.drop (i + 1))) := by
          rw [List.drop_eq_getElem_cons hlt, List.drop_eq_getElem_cons hlt', Bool.eq_iff_iff]
          simp only [decide_eq_true_eq, Bool.and_eq_true, List.cons.injEq]
        have ht : ((!(a[i].f0 == b[i].f0)) || (!(a[i].f1 == b[i].f1))) = !decide (a[i] = b[i]) := by
          generalize a[i] = x
          generalize b[i] = y
          cases x; cases y
          rw [Bool.eq_iff_iff]
          simp
        rw [hd]
        by_cases he : a[i] = b[i]
        · rw [decide_eq_true he, Bool.true_and]
          rw [decide_eq_true he] at ht
          refine Ev.step (fun k => ?_) (ih (i + 1) (by omega))
          simp only [api_Span_53.l0]
          rw [rdp_eq a i hlt, rdp_eq b i hlt', if_pos (by omega), if_pos (by omega), if_pos (by omega), if_pos (by omega), ht, if_neg (by decide), W1.out]
        · rw [decide_eq_false he, Bool.false_and]
          rw [decide_eq_false he] at ht
          refine Ev.step (f := fun _ => some _) (fun k => ?_) (Ev.now _)
          simp only [api_Span_53.l0]
          rw [rdp_eq a i hlt, rdp_eq b i hlt', if_pos (by omega), if_pos (by omega), if_pos (by omega), if_pos (by omega), ht, if_pos (by decide)]
    have h := walk a.length 0 (by omega)
    rw [List.drop_zero, List.drop_zero] at h
    exact Ev.congr (fun k => by unfold api_Span_53.f; rw [if_pos (by omega)]; rfl) h
  · rw [decide_eq_false (fun e => hab (by rw [e]))]
    exact Ev.congr (fun k => by unfold api_Span_53.f; rw [if_neg (by omega)]) (Ev.now _)
theorem within_ev (a b : List Sn) (ha : a.length ≤ 8388608) (hb : b.length ≤ 8388608) :
    (isB (prs a) = true ∧ isB (prs b) = true ∧ ∃ r : Bool, Ev (fun k => span_Within.f k a b) r ∧ (r = true ↔ ∀ p, Mem (prs a) p → Mem (prs b) p)) ∨
    ((isB (prs a) && isB (prs b)) = false ∧ Ev (fun k => span_Within.f k a b) false) := by
  have h1 := isP_ev a (by omega)
  have h2 := isP_ev b (by omega)
  unfold span_Within.f
  cases e1 : isB (prs a) with
  | false =>
    rw [e1] at h1
    refine .inr ⟨rfl, Ev.bind h1 ?_⟩
    exact Ev.ite_f (Ev.now _)
  | true =>
    rw [e1] at h1
    cases e2 : isB (prs b) with
    | false =>
      rw [e2] at h2
      refine .inr ⟨rfl, Ev.bind h1 ?_⟩
      refine Ev.ite_t ?_
      refine Ev.bind h2 ?_
      exact Ev.ite_f (Ev.now _)
    | true =>
      rw [e2] at h2
      obtain ⟨r, r1, r2, r3, r4⟩ := crossed_ev (isB_iff.1 e1).1 (isB_iff.1 e2).1 (by omega)
      have hq := equal_ev r a (by omega)
      refine .inl ⟨rfl, rfl, decide (r = a), ?_, ?_⟩
      · refine Ev.bind h1 ?_
        refine Ev.ite_t ?_
        refine Ev.bind h2 ?_
        refine Ev.ite_t ?_
        refine Ev.bind r1 ?_
        exact Ev.bind hq (Ev.now _)
      · rw [decide_eq_true_eq]
        constructor
        · intro h p hp
          rw [← h] at hp
          exact ((r3 p).1 hp).2
        · intro h
          exact prs_inj (Rise.uniq r2 (isB_iff.1 e1).1 fun p => (r3 p).trans ⟨fun k => k.1, fun k => ⟨k, h p k⟩⟩)

end Go.Proofs.Ytkpdccegamcppaa.PSpan
