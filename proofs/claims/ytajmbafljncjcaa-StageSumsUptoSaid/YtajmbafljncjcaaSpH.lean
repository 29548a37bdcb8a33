/- span.Has and stage.whole, in the stage seat, by hand. -/
import Derived.Test.YtajmbafljncjcaaSpF
namespace Go.Proofs.Ytajmbafljncjcaa.Stage
open Go.RowKit Go.Proofs.YtajmbafljncjcaaW.PrintWords Go.Proofs.YtajmbafljncjcaaW.PrintLast Go.Proofs.YtajmbafljncjcaaW.PrintMore
set_option linter.unusedVariables false
set_option linter.unusedSimpArgs false

theorem setFrom_get : ∀ (l : List (Int × Int)) (low : Int), setFrom low l = true → ∀ j, j < l.length → mayI (l.getD j (0, 0)) = true ∧ low ≤ (l.getD j (0, 0)).1 ∧ ∀ i, i < j → (l.getD i (0, 0)).2 + 2 ≤ (l.getD j (0, 0)).1
  | [], _, _, j, h => by simp at h
  | x :: l, low, hs, 0, _ => by
    simp only [setFrom, Bool.and_eq_true, decide_eq_true_eq] at hs
    exact ⟨hs.1.1, hs.1.2, fun i hi => absurd hi (Nat.not_lt_zero i)⟩
  | x :: l, low, hs, j + 1, h => by
    simp only [setFrom, Bool.and_eq_true, decide_eq_true_eq] at hs
    obtain ⟨k1, k2, k3⟩ := setFrom_get l (x.2 + 2) hs.2 j (by simpa using h)
    have hm : 0 ≤ x.1 ∧ x.1 ≤ x.2 ∧ x.2 ≤ 1114111 := of_decide_eq_true hs.1.1
    refine ⟨k1, ?_, fun i hi => ?_⟩
    · show low ≤ (l.getD j (0, 0)).1; omega
    · cases i with
      | zero => exact k2
      | succ i => exact k3 i (by omega)
theorem isSet_get {l : List (Int × Int)} (h : isSet l = true) {j : Nat} (hj : j < l.length) : (0 ≤ (l.getD j (0, 0)).1 ∧ (l.getD j (0, 0)).1 ≤ (l.getD j (0, 0)).2 ∧ (l.getD j (0, 0)).2 ≤ 1114111) ∧ ∀ i, i < j → (l.getD i (0, 0)).2 + 2 ≤ (l.getD j (0, 0)).1 := by
  unfold isSet at h
  rw [Bool.and_eq_true] at h
  obtain ⟨k1, _, k3⟩ := setFrom_get l 0 h.1 j hj
  exact ⟨of_decide_eq_true k1, k3⟩
theorem isSet_ends {l : List (Int × Int)} (h : isSet l = true) : EndsRise l := fun i j hij hj => by
  rcases Nat.lt_or_eq_of_le hij with h1 | rfl
  · have h2 := isSet_get h hj
    have := h2.2 i h1
    omega
  · exact Int.le_refl _
theorem isSet_len {l : List (Int × Int)} (h : isSet l = true) : l.length ≤ 65536 := by
  unfold isSet at h
  rw [Bool.and_eq_true, decide_eq_true_eq] at h
  exact h.2
/-- What the search says: all ahead end ahead, and the one there does not. -/
theorem idxS_spec (p : Int) : ∀ l : List (Int × Int), idxS p l ≤ l.length ∧ (∀ t, t < idxS p l → (l.getD t (0, 0)).2 < p) ∧ (idxS p l < l.length → p ≤ (l.getD (idxS p l) (0, 0)).2)
  | [] => ⟨Nat.le_refl _, fun t ht => absurd ht (Nat.not_lt_zero t), fun h => absurd h (Nat.lt_irrefl 0)⟩
  | x :: l => by
    obtain ⟨k1, k2, k3⟩ := idxS_spec p l
    unfold idxS
    by_cases h : x.2 < p
    · rw [if_pos h]
      refine ⟨by simp only [List.length_cons]; omega, fun t ht => ?_, fun hh => k3 (by simpa using hh)⟩
      cases t with
      | zero => exact h
      | succ t => exact k2 t (by omega)
    · rw [if_neg h]
      exact ⟨Nat.zero_le _, fun t ht => absurd ht (Nat.not_lt_zero t), fun _ => by show p ≤ x.2; omega⟩
/-- Is a code point in a set? -/
def hasS (p : Int) (l : List (Int × Int)) : Bool := decide (idxS p l < l.length) && decide ((l.getD (idxS p l) (0, 0)).1 ≤ p)
theorem hasS_iff {l : List (Int × Int)} (h : isSet l = true) (p : Int) : hasS p l = true ↔ ∃ i, i < l.length ∧ (l.getD i (0, 0)).1 ≤ p ∧ p ≤ (l.getD i (0, 0)).2 := by
  obtain ⟨k1, k2, k3⟩ := idxS_spec p l
  unfold hasS
  rw [Bool.and_eq_true, decide_eq_true_eq, decide_eq_true_eq]
  constructor
  · rintro ⟨h1, h2⟩; exact ⟨_, h1, h2, k3 h1⟩
  · rintro ⟨i, h1, h2, h3⟩
    have hge : idxS p l ≤ i := Nat.le_of_not_lt fun hlt => by have := k2 i hlt; omega
    have hlt : idxS p l < l.length := by omega
    refine ⟨hlt, ?_⟩
    rcases Nat.lt_or_eq_of_le hge with hq | hq
    · have := (isSet_get h h1).2 _ hq
      have := k3 hlt
      omega
    · rw [hq]; exact h2
set_option maxRecDepth 100000 in
set_option maxHeartbeats 1600000 in
theorem has_calls (w : World) (A : Option Addr) (c : Nat) (l : List (Int × Int)) (p : Int) (hC : SpI w A l) (hs : isSet l = true) :
    Calls Try.prog 73 #[.slice A l.length c, .int .i32 p] w fun e w' => e = .returned (.bool (hasS p l)) ∧ Below w.heap.size w w' := by
  have hl := isSet_len hs
  have HI := Aside0.mk (is_calls w A c l hC (by omega))
  rw [hs] at HI
  have HF := Aside0.mk (fun (W : World) (hW : Below w.heap.size w W) => find_calls W A c l p (hC.below hW) (by omega) (isSet_ends hs))
  have HC := Aside0.mk hC
  have hsp := idxS_spec p l
  obtain ⟨r, hr⟩ : ∃ r, hasS p l = r := ⟨_, rfl⟩
  rw [hr]
  unfold hasS at hr
  clear hC hs
  generalize idxS p l = q at *
  go_enter Try.func73, Try.ntmps73
  go_wp2_with fail
  refine HI.out.mono ?_
  rintro e w1 ⟨rfl, hb1⟩
  have HF1 := Aside0.mk (HF.out w1 hb1)
  have HB1 := Aside0.mk hb1
  clear HF HI hb1
  go_wp2_with fail
  refine HF1.out.mono ?_
  rintro e w2 ⟨rfl, hb2⟩
  have HB2 := Aside0.mk (HB1.out.trans (hb2.mono HB1.out.size))
  clear hb2 HF1 HB1
  by_cases h1 : q < l.length
  · have h1' : (q : Int) < (l.length : Int) := by omega
    obtain ⟨ad, rfl, k0, _⟩ := (HC.out.below HB2.out) q h1
    rw [decide_eq_true h1, Bool.true_and] at hr
    generalize (l.getD q (0, 0)).1 = z at k0 hr
    by_cases h2 : z ≤ p
    · rw [decide_eq_true h2] at hr
      subst hr
      go_wp2_with fail
      go_ret
      exact ⟨by first | rfl | (simp; done) | (simp; omega), HB2.out⟩
    · rw [decide_eq_false h2] at hr
      subst hr
      go_wp2_with fail
      go_ret
      exact ⟨by first | rfl | (simp; done) | (simp; omega), HB2.out⟩
  · have h1' : ¬ (q : Int) < (l.length : Int) := by omega
    rw [decide_eq_false h1, Bool.false_and] at hr
    subst hr
    go_wp2_with fail
    go_ret
    exact ⟨by first | rfl | (simp; done) | (simp; omega), HB2.out⟩
/-- Are the code points from one to another all in a set, or none? -/
def wholeS (l : List (Int × Int)) (f t : Int) : Bool := decide (idxS f l = l.length) || (decide ((l.getD (idxS f l) (0, 0)).1 > t) || (decide ((l.getD (idxS f l) (0, 0)).1 ≤ f) && decide ((l.getD (idxS f l) (0, 0)).2 ≥ t)))
set_option maxRecDepth 100000 in
set_option maxHeartbeats 1600000 in
theorem wholeS_calls (w : World) (A : Option Addr) (c : Nat) (l : List (Int × Int)) (f t : Int) (hC : SpI w A l) (hs : isSet l = true) :
    Calls Try.prog 77 #[.slice A l.length c, .int .i32 f, .int .i32 t] w fun e w' => e = .returned (.bool (wholeS l f t)) ∧ Below w.heap.size w w' := by
  have hl := isSet_len hs
  have HF := Aside0.mk (bsS_calls whole1_cmp w A c l f hC (by omega) (isSet_ends hs))
  have HC := Aside0.mk hC
  have hsp := (idxS_spec f l).1
  obtain ⟨r, hr⟩ : ∃ r, wholeS l f t = r := ⟨_, rfl⟩
  rw [hr]
  unfold wholeS at hr
  clear hC hs
  generalize idxS f l = q at *
  go_enter Try.func77, Try.ntmps77
  go_wp2_with fail
  refine HF.out.mono ?_
  rintro e w2 ⟨bb, rfl, hb2⟩
  have HB2 := Aside0.mk hb2
  clear hb2 HF
  by_cases h1 : q = l.length
  · subst h1
    rw [decide_eq_true rfl, Bool.true_or] at hr
    subst hr
    go_wp2_with fail
    go_ret
    exact ⟨by simp, HB2.out⟩
  · have h0 : q < l.length := by omega
    have h1' : ¬ (q : Int) = (l.length : Int) := by omega
    have h1b : ((q : Int) == (l.length : Int)) = false := beq_eq_false_iff_ne.2 h1'
    have h0' : (q : Int) < (l.length : Int) := by omega
    obtain ⟨ad, rfl, k0, k1⟩ := (HC.out.below HB2.out) q h0
    rw [decide_eq_false h1, Bool.false_or] at hr
    generalize (l.getD q (0, 0)).1 = z at k0 hr
    generalize (l.getD q (0, 0)).2 = y at k1 hr
    by_cases h2 : z > t
    · rw [decide_eq_true h2, Bool.true_or] at hr
      subst hr
      go_wp2_with fail
      go_ret
      exact ⟨by first | rfl | (simp; done) | (simp; omega), HB2.out⟩
    · rw [decide_eq_false h2, Bool.false_or] at hr
      by_cases h3 : z ≤ f
      · rw [decide_eq_true h3, Bool.true_and] at hr
        by_cases h4 : y ≥ t
        · rw [decide_eq_true h4] at hr
          subst hr
          go_wp2_with fail
          go_ret
          exact ⟨by first | rfl | (simp; done) | (simp; omega), HB2.out⟩
        · rw [decide_eq_false h4] at hr
          subst hr
          go_wp2_with fail
          go_ret
          exact ⟨by first | rfl | (simp; done) | (simp; omega), HB2.out⟩
      · rw [decide_eq_false h3, Bool.false_and] at hr
        subst hr
        go_wp2_with fail
        go_ret
        exact ⟨by first | rfl | (simp; done) | (simp; omega), HB2.out⟩

end Go.Proofs.Ytajmbafljncjcaa.Stage
