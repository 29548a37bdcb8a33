/- Alike; whether a list is a set, by both; awake. -/
import Derived.Test.YtkpdccegamcppaaXGiven
import Derived.Test.YtkpdccegamcppaaPSpanx9
import Derived.Test.YtkpdccegamcppaaPSpanx7
namespace Go.Proofs.Ytkpdccegamcppaa.PSpan
open Go.RowKit Go.Proofs.YtkpdccegamcppaaW.PrintWords Go.Proofs.YtkpdccegamcppaaW.PrintLast Go.Proofs.YtkpdccegamcppaaW.PrintMore Go.Proofs.Ytkpdccegamcppaa.SpanP
set_option linter.unusedVariables false
set_option linter.unusedSimpArgs false

instance : DecidableEq Q := fun x y => decidable_of_iff (x.f0 = y.f0 ∧ x.f1 = y.f1) ⟨fun h => by cases x; cases y; simp only at h; rw [h.1, h.2], fun h => by rw [h]; exact ⟨rfl, rfl⟩⟩
theorem alike_ev (a : List S50) (b : List Q) (ha : a.length ≤ 16777216) : Ev (fun k => posternlaw07_alike.f k a b) (decide (a.map toR = b)) := by
  by_cases hab : a.length = b.length
  · have : ∀ d i, i + d = a.length → Ev (fun k => posternlaw07_alike.l0 k a b (i : Int)) (decide ((a.drop i).map toR = b.drop i)) := by
      intro d
      induction d with
      | zero =>
        intro i hi
        refine Ev.step (f := fun _ => some _) (fun k => ?_) (Ev.now _)
        simp only [posternlaw07_alike.l0]
        rw [if_neg (by omega), List.drop_of_length_le (by omega), List.drop_of_length_le (by omega)]
        rfl
      | succ d ih =>
        intro i hi
        have hlt : i < a.length := by omega
        have hlt' : i < b.length := by omega
        have hd : decide ((a.drop i).map toR = b.drop i) = (decide (a[i].f0 = b[i].f0) && decide (a[i].f1 = b[i].f1) && decide ((a.drop (i + 1)).map toR = b.drop (i + 1))) := by
          rw [List.drop_eq_getElem_cons hlt, List.drop_eq_getElem_cons hlt', List.map_cons, Bool.eq_iff_iff]
          simp only [decide_eq_true_eq, Bool.and_eq_true, List.cons.injEq]
          generalize a[i] = x
          generalize b[i] = y
          cases y
          simp [toR]
        rw [hd]
        by_cases h0 : a[i].f0 = b[i].f0
        · by_cases h1 : a[i].f1 = b[i].f1
          · rw [decide_eq_true h0, decide_eq_true h1, Bool.true_and, Bool.true_and]
            refine Ev.step (fun k => ?_) (ih (i + 1) (by omega))
            simp only [posternlaw07_alike.l0]
            rw [rdp_eq a i hlt, rdq_eq b i hlt', w64s i a.length hlt (by omega), if_pos (by omega), if_pos (by omega), if_pos (by omega), if_pos h0, if_pos h1]
          · rw [decide_eq_false h1]
            refine Ev.step (f := fun _ => some _) (fun k => ?_) (Ev.now _)
            simp only [posternlaw07_alike.l0]
            rw [rdp_eq a i hlt, rdq_eq b i hlt', if_pos (by omega), if_pos (by omega), if_pos (by omega), if_pos h0, if_neg h1]
            simp
        · rw [decide_eq_false h0]
          refine Ev.step (f := fun _ => some _) (fun k => ?_) (Ev.now _)
          simp only [posternlaw07_alike.l0]
          rw [rdp_eq a i hlt, rdq_eq b i hlt', if_pos (by omega), if_pos (by omega), if_pos (by omega), if_neg h0]
          simp
    have h := this a.length 0 (by omega)
    rw [List.drop_zero, List.drop_zero] at h
    exact Ev.congr (fun k => by unfold posternlaw07_alike.f; rw [if_pos (by omega)]; rfl) h
  · rw [decide_eq_false (fun e => hab (by rw [← e, List.length_map]))]
    exact Ev.congr (fun k => by unfold posternlaw07_alike.f; rw [if_neg (by omega)]) (Ev.now _)

/-- Is a list a set? -/
def isB (l : List Sp) : Bool := decide (Rise 0 l) && decide (l.length ≤ 65536)
theorem rise_next {l : List Sp} (i : Nat) (hi : i < l.length) (h : Rise 0 (l.take i)) : Rise 0 (l.take (i + 1)) ↔ may l[i] ∧ (∀ j, i = j + 1 → ∀ hj : j < l.length, l[j].2 + 1 < l[i].1) := by
  have ht : l.take (i + 1) = l.take i ++ [l[i]] := List.take_succ_eq_append_getElem hi
  rw [ht]
  constructor
  · intro hr
    obtain ⟨_, k2, k3, k4, k5⟩ := hr.init
    refine ⟨⟨k2, k3, k4⟩, fun j hj hj' => ?_⟩
    have := k5 l[j] (by rw [List.mem_take_iff_getElem]; exact ⟨j, by omega, rfl⟩)
    omega
  · rintro ⟨⟨k1, k2, k3⟩, k4⟩
    refine h.snoc k2 k3 k1 (fun z hz => ?_)
    cases i with
    | zero => simp at hz
    | succ j =>
      have hj : j < l.length := by omega
      rw [List.take_succ_eq_append_getElem hj, List.getLast?_concat] at hz
      obtain rfl := Option.some.inj hz
      have := k4 j rfl hj
      omega
theorem rise_not {l : List Sp} (i : Nat) (h : ¬ Rise 0 (l.take i)) : isB l = false := by
  unfold isB
  rw [decide_eq_false (fun hr => h (hr.take i))]
  rfl
theorem may_ev (x : S50) : span_may.f x.f0 x.f1 = some (decide (may (pr x))) := by
  unfold span_may.f
  have e : may (pr x) ↔ (0 ≤ x.f0 ∧ x.f0 ≤ x.f1 ∧ x.f1 ≤ 1114111) := Iff.rfl
  by_cases h1 : x.f0 ≥ 0
  · rw [if_pos h1]
    by_cases h2 : x.f0 ≤ x.f1
    · rw [if_pos h2]
      congr 1
      rw [Bool.eq_iff_iff, decide_eq_true_eq, decide_eq_true_eq, e]
      exact ⟨fun h => ⟨h1, h2, h⟩, fun h => h.2.2⟩
    · rw [if_neg h2, decide_eq_false (fun h => h2 (e.1 h).2.1)]
  · rw [if_neg h1, decide_eq_false (fun h => h1 (e.1 h).1)]
theorem mayq_ev (x : Q) : posternref07_May.f x.f0 x.f1 = some (decide (may (qr x))) := by
  unfold posternref07_May.f
  have e : may (qr x) ↔ (0 ≤ x.f0 ∧ x.f0 ≤ x.f1 ∧ x.f1 ≤ 1114111) := Iff.rfl
  by_cases h1 : x.f0 ≥ 0
  · rw [if_pos h1]
    by_cases h2 : x.f0 ≤ x.f1
    · rw [if_pos h2]
      congr 1
      rw [Bool.eq_iff_iff, decide_eq_true_eq, decide_eq_true_eq, e]
      exact ⟨fun h => ⟨h1, h2, h⟩, fun h => h.2.2⟩
    · rw [if_neg h2, decide_eq_false (fun h => h2 (e.1 h).2.1)]
  · rw [if_neg h1, decide_eq_false (fun h => h1 (e.1 h).1)]
theorem isP_ev (l : List S50) (hl : l.length ≤ 16777216) : Ev (fun k => span_Is.f k l) (isB (prs l)) := by
  have hpl := prs_len l
  have hg : ∀ i (hi : i < l.length), (prs l)[i]'(by omega) = pr l[i] := fun i hi => by simp [prs]
  have : ∀ d i, i + d = l.length → Rise 0 ((prs l).take i) → Ev (fun k => span_Is.l0 k l l (l.length : Int) (i : Int)) (isB (prs l)) := by
    intro d
    induction d with
    | zero =>
      intro i hi hr
      refine Ev.step (f := fun _ => some _) (fun k => ?_) (Ev.now _)
      simp only [span_Is.l0]
      rw [if_neg (by omega)]
      rw [List.take_of_length_le (by omega)] at hr
      unfold isB
      rw [decide_eq_true hr, Bool.true_and, hpl]
      congr 1
      rw [Bool.eq_iff_iff]
      simp only [decide_eq_true_eq]
      omega
    | succ d ih =>
      intro i hi hr
      have hlt : i < l.length := by omega
      have hn := rise_next i (by omega) hr
      rw [hg i hlt] at hn
      have fail : ¬ Rise 0 ((prs l).take (i + 1)) → isB (prs l) = false := fun h => rise_not (i + 1) h
      by_cases hm : may (pr l[i])
      · cases i with
        | zero =>
          refine Ev.step (fun k => ?_) (ih 1 (by omega) (hn.2 ⟨hm, fun j hj => by omega⟩))
          simp only [span_Is.l0]
          rw [rdp_eq l 0 hlt, may_ev, decide_eq_true hm, if_pos (by omega), if_pos (by omega), if_pos (by omega), w64s 0 l.length hlt (by omega)]
          simp
        | succ j =>
          have hj : j < l.length := by omega
          have hpm : l[j].f1 ≤ 1114111 ∧ 0 ≤ l[j].f1 := by
            have := hr.ge (pr l[j]) (by rw [List.mem_take_iff_getElem]; exact ⟨j, by omega, hg j hj⟩)
            exact ⟨this.2.2, by have h1 : 0 ≤ l[j].f0 := this.1; have h2 : l[j].f0 ≤ l[j].f1 := this.2.1; omega⟩
          have w1 : wrap64 (((j + 1 : Nat) : Int) - 1) = (j : Int) := by unfold wrap64; omega
          have w2 : wrap32 (l[j].f1 + 1) = l[j].f1 + 1 := by unfold wrap32; omega
          by_cases hc : l[j + 1].f0 ≤ l[j].f1 + 1
          · rw [fail (fun h => by
              have := (hn.1 h).2 j rfl (by omega)
              rw [hg j hj] at this
              have h' : l[j].f1 + 1 < l[j + 1].f0 := this
              omega)]
            refine Ev.step (f := fun _ => some _) (fun k => ?_) (Ev.now _)
            simp only [span_Is.l0]
            rw [rdp_eq l (j + 1) hlt, may_ev, decide_eq_true hm, w1, rdp_eq l j hj, w2, if_pos (by omega), if_pos (by omega), if_pos (by omega)]
            simp only [Option.bind_some]
            rw [if_pos trivial, if_pos (by omega), if_pos (by omega), if_pos (by omega), if_pos hc]
          · refine Ev.step (fun k => ?_) (ih (j + 1 + 1) (by omega) (hn.2 ⟨hm, fun j' hj' hj2 => by
              obtain rfl : j' = j := by omega
              rw [hg j' hj]
              show l[j'].f1 + 1 < l[j' + 1].f0
              omega⟩))
            simp only [span_Is.l0]
            rw [rdp_eq l (j + 1) hlt, may_ev, decide_eq_true hm, w1, rdp_eq l j hj, w2, if_pos (by omega), if_pos (by omega), if_pos (by omega), w64s (j + 1) l.length hlt (by omega)]
            simp only [Option.bind_some]
            rw [if_pos trivial, if_pos (by omega), if_pos (by omega), if_pos (by omega), if_neg hc]
      · rw [fail (fun h => hm (hn.1 h).1)]
        refine Ev.step (f := fun _ => some _) (fun k => ?_) (Ev.now _)
        simp only [span_Is.l0]
        rw [rdp_eq l i hlt, may_ev, decide_eq_false hm, if_pos (by omega), if_pos (by omega), if_pos (by omega)]
        simp
  exact this l.length 0 (by omega) trivial
theorem isQ_ev (l : List Q) (hl : l.length ≤ 16777216) : Ev (fun k => posternref07_Is.f k l) (isB (qrs l)) := by
  have hpl : (qrs l).length = l.length := List.length_map ..
  have hg : ∀ i (hi : i < l.length), (qrs l)[i]'(by omega) = qr l[i] := fun i hi => by simp [qrs]
  have : ∀ d i, i + d = l.length → Rise 0 ((qrs l).take i) → Ev (fun k => posternref07_Is.l0 k l (i : Int)) (isB (qrs l)) := by
    intro d
    induction d with
    | zero =>
      intro i hi hr
      refine Ev.step (f := fun _ => some _) (fun k => ?_) (Ev.now _)
      simp only [posternref07_Is.l0]
      rw [if_neg (by omega)]
      rw [List.take_of_length_le (by omega)] at hr
      unfold isB
      rw [decide_eq_true hr, Bool.true_and, hpl]
      congr 1
      rw [Bool.eq_iff_iff]
      simp only [decide_eq_true_eq]
      omega
    | succ d ih =>
      intro i hi hr
      have hlt : i < l.length := by omega
      have hn := rise_next i (by omega) hr
      rw [hg i hlt] at hn
      have fail : ¬ Rise 0 ((qrs l).take (i + 1)) → isB (qrs l) = false := fun h => rise_not (i + 1) h
      by_cases hm : may (qr l[i])
      · cases i with
        | zero =>
          refine Ev.step (fun k => ?_) (ih 1 (by omega) (hn.2 ⟨hm, fun j hj => by omega⟩))
          simp only [posternref07_Is.l0]
          rw [rdq_eq l 0 hlt, mayq_ev, decide_eq_true hm, if_pos (by omega), if_pos (by omega), w64s 0 l.length hlt (by omega)]
          simp
        | succ j =>
          have hj : j < l.length := by omega
          have hpm : l[j].f1 ≤ 1114111 ∧ 0 ≤ l[j].f1 := by
            have := hr.ge (qr l[j]) (by rw [List.mem_take_iff_getElem]; exact ⟨j, by omega, hg j hj⟩)
            exact ⟨this.2.2, by have h1 : 0 ≤ l[j].f0 := this.1; have h2 : l[j].f0 ≤ l[j].f1 := this.2.1; omega⟩
          have w1 : wrap64 (((j + 1 : Nat) : Int) - 1) = (j : Int) := by unfold wrap64; omega
          have w2 : wrap32 (l[j].f1 + 1) = l[j].f1 + 1 := by unfold wrap32; omega
          by_cases hc : l[j + 1].f0 ≤ l[j].f1 + 1
          · rw [fail (fun h => by
              have := (hn.1 h).2 j rfl (by omega)
              rw [hg j hj] at this
              have h' : l[j].f1 + 1 < l[j + 1].f0 := this
              omega)]
            refine Ev.step (f := fun _ => some _) (fun k => ?_) (Ev.now _)
            simp only [posternref07_Is.l0]
            rw [rdq_eq l (j + 1) hlt, mayq_ev, decide_eq_true hm, w1, rdq_eq l j hj, w2, if_pos (by omega), if_pos (by omega)]
            simp only [Option.bind_some]
            rw [if_pos trivial, if_pos (by omega), if_pos (by omega), if_pos (by omega), if_pos hc]
          · refine Ev.step (fun k => ?_) (ih (j + 1 + 1) (by omega) (hn.2 ⟨hm, fun j' hj' hj2 => by
              obtain rfl : j' = j := by omega
              rw [hg j' hj]
              show l[j'].f1 + 1 < l[j' + 1].f0
              omega⟩))
            simp only [posternref07_Is.l0]
            rw [rdq_eq l (j + 1) hlt, mayq_ev, decide_eq_true hm, w1, rdq_eq l j hj, w2, if_pos (by omega), if_pos (by omega), w64s (j + 1) l.length hlt (by omega)]
            simp only [Option.bind_some]
            rw [if_pos trivial, if_pos (by omega), if_pos (by omega), if_pos (by omega), if_neg hc]
      · rw [fail (fun h => hm (hn.1 h).1)]
        refine Ev.step (f := fun _ => some _) (fun k => ?_) (Ev.now _)
        simp only [posternref07_Is.l0]
        rw [rdq_eq l i hlt, mayq_ev, decide_eq_false hm, if_pos (by omega), if_pos (by omega)]
        simp
  exact this l.length 0 (by omega) trivial

theorem awake_f : posternlaw07_awake.f = some true := by
  obtain ⟨r, h1, h2, h3, h4⟩ := span_joined_f (l := [⟨1, 2⟩]) (by simp) (by decide)
  have hr : r = [⟨1, 2⟩] := prs_inj (Rise.uniq h2 (low' := 0) (by decide) h3)
  subst hr
  unfold posternlaw07_awake.f span_Make.f
  rw [if_neg (by simp), if_neg (by simp), if_pos (by decide), h1]
  rfl

end Go.Proofs.Ytkpdccegamcppaa.PSpan
