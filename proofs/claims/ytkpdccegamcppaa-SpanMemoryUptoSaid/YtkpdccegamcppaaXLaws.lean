/- The laws of sets without the document: counts of either and both; places. -/
import Derived.Test.YtkpdccegamcppaaXAsks
import Derived.Test.YtkpdccegamcppaaXSets
namespace Go.Proofs.Ytkpdccegamcppaa.PSpan
open Go.RowKit Go.Proofs.YtkpdccegamcppaaW.PrintWords Go.Proofs.YtkpdccegamcppaaW.PrintLast Go.Proofs.YtkpdccegamcppaaW.PrintMore Go.Proofs.Ytkpdccegamcppaa.SpanP
set_option linter.unusedVariables false
set_option linter.unusedSimpArgs false

/-- One more code point. -/
theorem plc_succ : ∀ {l : List Sn} {low : Int} (p : Int), Rise low (prs l) → plcP (p + 1) l = plcP p l + if hasB (prs l) p = true then 1 else 0
  | [], _, _, _ => rfl
  | x :: l, low, p, h => by
    obtain ⟨a, b, c, d⟩ := rise_cons h
    have ih := plc_succ p d
    have hb : hasB (prs (x :: l)) p = (decide (x.f0 ≤ p ∧ p ≤ x.f1) || hasB (prs l) p) := rfl
    have hg : p ≤ x.f1 + 1 → hasB (prs l) p = false := fun hp => by
      rw [Bool.eq_false_iff]
      intro hh
      have := (d.mem_ge ((hasB_iff _ _).1 hh)).1
      omega
    rw [hb]
    show (if x.f1 < p + 1 then x.f1 - x.f0 + 1 else if x.f0 < p + 1 then p + 1 - x.f0 else 0) + plcP (p + 1) l = (if x.f1 < p then x.f1 - x.f0 + 1 else if x.f0 < p then p - x.f0 else 0) + plcP p l + _
    rw [ih]
    have e0 : (if (false : Bool) = true then (1 : Int) else 0) = 0 := rfl
    have e1 : (if (true : Bool) = true then (1 : Int) else 0) = 1 := rfl
    by_cases h1 : x.f1 < p
    · rw [decide_eq_false (by omega), Bool.false_or]
      generalize (if hasB (prs l) p = true then (1 : Int) else 0) = z
      rw [if_pos (show x.f1 < p + 1 by omega), if_pos h1]
      omega
    · rw [hg (by omega), Bool.or_false, e0]
      by_cases h2 : x.f0 ≤ p
      · rw [decide_eq_true ⟨h2, by omega⟩, e1]
        by_cases h3 : x.f1 = p
        · rw [if_pos (show x.f1 < p + 1 by omega), if_neg h1]
          split <;> omega
        · rw [if_neg (show ¬ x.f1 < p + 1 by omega), if_pos (show x.f0 < p + 1 by omega), if_neg h1]
          split <;> omega
      · rw [decide_eq_false (by omega), e0, if_neg (show ¬ x.f1 < p + 1 by omega), if_neg (show ¬ x.f0 < p + 1 by omega), if_neg h1, if_neg (show ¬ x.f0 < p by omega)]
        omega
theorem plc_all : ∀ {l : List Sn} {low : Int}, Rise low (prs l) → plcP 1114112 l = cntP l
  | [], _, _ => rfl
  | x :: l, low, h => by
    obtain ⟨a, b, c, d⟩ := rise_cons h
    unfold plcP cntP
    rw [if_pos (by omega), plc_all d]
theorem count_or {a b u v : List Sn} (ha : Rise 0 (prs a)) (hb : Rise 0 (prs b)) (hu : Rise 0 (prs u)) (hv : Rise 0 (prs v)) (mu : ∀ p, Mem (prs u) p ↔ (Mem (prs a) p ∨ Mem (prs b) p)) (mv : ∀ p, Mem (prs v) p ↔ (Mem (prs a) p ∧ Mem (prs b) p)) : cntP a + cntP b = cntP u + cntP v := by
  have : ∀ n : Nat, plcP (n : Int) a + plcP (n : Int) b = plcP (n : Int) u + plcP (n : Int) v := by
    intro n
    induction n with
    | zero =>
      show plcP 0 a + plcP 0 b = plcP 0 u + plcP 0 v
      rw [plcP_zero ha (Int.le_refl _), plcP_zero hb (Int.le_refl _), plcP_zero hu (Int.le_refl _), plcP_zero hv (Int.le_refl _)]
    | succ n ih =>
      have e : ((n + 1 : Nat) : Int) = (n : Int) + 1 := rfl
      rw [e, plc_succ _ ha, plc_succ _ hb, plc_succ _ hu, plc_succ _ hv]
      have xu : hasB (prs u) n = (hasB (prs a) n || hasB (prs b) n) := by
        rw [Bool.eq_iff_iff, Bool.or_eq_true, hasB_iff, hasB_iff, hasB_iff]; exact mu n
      have xv : hasB (prs v) n = (hasB (prs a) n && hasB (prs b) n) := by
        rw [Bool.eq_iff_iff, Bool.and_eq_true, hasB_iff, hasB_iff, hasB_iff]; exact mv n
      rw [xu, xv]
      cases hasB (prs a) n <;> cases hasB (prs b) n <;> simp <;> omega
  have h := this 1114112
  have e : ((1114112 : Nat) : Int) = 1114112 := rfl
  rw [e, plc_all ha, plc_all hb, plc_all hu, plc_all hv] at h
  exact h
theorem count_not {a x : List Sn} (ha : Rise 0 (prs a)) (hx : Rise 0 (prs x)) (mx : ∀ p, Mem (prs x) p ↔ (0 ≤ p ∧ p ≤ 1114111 ∧ ¬ Mem (prs a) p)) : cntP a + cntP x = 1114112 := by
  have : ∀ n : Nat, n ≤ 1114112 → plcP (n : Int) a + plcP (n : Int) x = n := by
    intro n
    induction n with
    | zero =>
      intro _
      show plcP 0 a + plcP 0 x = 0
      rw [plcP_zero ha (Int.le_refl _), plcP_zero hx (Int.le_refl _)]
      rfl
    | succ n ih =>
      intro hn
      have ih := ih (by omega)
      have e : ((n + 1 : Nat) : Int) = (n : Int) + 1 := rfl
      rw [e, plc_succ _ ha, plc_succ _ hx]
      have xx : hasB (prs x) n = !hasB (prs a) n := by
        rw [Bool.eq_iff_iff, Bool.not_eq_true', ← Bool.not_eq_true, hasB_iff, hasB_iff]
        rw [mx n]
        constructor
        · exact fun k => k.2.2
        · exact fun k => ⟨by omega, by omega, k⟩
      rw [xx]
      cases hasB (prs a) n <;> simp <;> omega
  have h := this 1114112 (Nat.le_refl _)
  have e : ((1114112 : Nat) : Int) = 1114112 := rfl
  rw [e, plc_all ha, plc_all hx] at h
  exact h
/-- At a place. -/
theorem at_back : ∀ {l : List Sn} {low i : Int}, Rise low (prs l) → 0 ≤ i → i < cntP l → low ≤ atP l i ∧ hasB (prs l) (atP l i) = true ∧ plcP (atP l i) l = i ∧ nxtP (atP l i) l = atP l i
  | [], _, i, _, h0, h1 => by
    have : i < 0 := h1
    omega
  | x :: l, low, i, h, h0, h1 => by
    obtain ⟨a, b, c, d⟩ := rise_cons h
    have hb : ∀ p, hasB (prs (x :: l)) p = (decide (x.f0 ≤ p ∧ p ≤ x.f1) || hasB (prs l) p) := fun _ => rfl
    have h1' : i < (x.f1 - x.f0 + 1) + cntP l := h1
    by_cases hc : i < x.f1 - x.f0 + 1
    · have e : atP (x :: l) i = x.f0 + i := by unfold atP; rw [if_pos hc]
      rw [e]
      refine ⟨by omega, by rw [hb, decide_eq_true ⟨by omega, by omega⟩, Bool.true_or], ?_, ?_⟩
      · show (if x.f1 < x.f0 + i then x.f1 - x.f0 + 1 else if x.f0 < x.f0 + i then x.f0 + i - x.f0 else 0) + plcP (x.f0 + i) l = i
        rw [if_neg (by omega), plcP_zero d (by omega)]
        split <;> omega
      · show (if x.f0 + i ≤ x.f0 then x.f0 else if x.f0 + i ≤ x.f1 then x.f0 + i else nxtP (x.f0 + i) l) = x.f0 + i
        split
        · omega
        · rw [if_pos (by omega)]
    · have e : atP (x :: l) i = atP l (i - (x.f1 - x.f0 + 1)) := by rw [atP, if_neg hc]
      obtain ⟨k1, k2, k3, k4⟩ := at_back d (i := i - (x.f1 - x.f0 + 1)) (by omega) (by omega)
      rw [e]
      generalize atP l (i - (x.f1 - x.f0 + 1)) = p at k1 k2 k3 k4
      refine ⟨by omega, by rw [hb, k2, Bool.or_true], ?_, ?_⟩
      · show (if x.f1 < p then x.f1 - x.f0 + 1 else if x.f0 < p then p - x.f0 else 0) + plcP p l = i
        rw [if_pos (by omega), k3]
        omega
      · show (if p ≤ x.f0 then x.f0 else if p ≤ x.f1 then p else nxtP p l) = p
        rw [if_neg (by omega), if_neg (by omega), k4]
theorem at_far : ∀ {l : List Sn} {low i : Int}, Rise low (prs l) → cntP l ≤ i → atP l i = -1
  | [], _, i, _, _ => rfl
  | x :: l, low, i, h, h1 => by
    obtain ⟨a, b, c, d⟩ := rise_cons h
    have h1' : (x.f1 - x.f0 + 1) + cntP l ≤ i := h1
    have hn : ∀ {l : List Sn} {low : Int}, Rise low (prs l) → 0 ≤ cntP l := by
      intro l
      induction l with
      | nil => exact fun _ => Int.le_refl _
      | cons y l ih =>
        intro low h
        obtain ⟨a, b, c, d⟩ := rise_cons h
        have := ih d
        show 0 ≤ (y.f1 - y.f0 + 1) + cntP l
        omega
    have := hn d
    unfold atP
    rw [if_neg (by omega), at_far d (by omega)]
theorem make_set {a : List Sn} (h : isB (prs a) = true) : span_Make.f a = some (a, 0, 0) := by
  obtain ⟨hm, hl⟩ := isB_may h
  obtain ⟨r, k1, k2, k3, _⟩ := span_joined_f (by omega) hm
  have : r = a := prs_inj (Rise.uniq k2 (isB_iff.1 h).1 k3)
  subst this
  unfold span_Make.f
  rw [if_neg (by omega), if_neg (by omega), if_pos ((badP_none r).2 hm), k1]
  rfl

end Go.Proofs.Ytkpdccegamcppaa.PSpan
