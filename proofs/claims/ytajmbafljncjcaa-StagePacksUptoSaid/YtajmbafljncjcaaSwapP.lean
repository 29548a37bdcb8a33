/- Plain lists: a number in the place of another one; stretches between two code points. No program here. -/
import Derived.Test.YtajmbafljncjcaaStE
import Derived.Test.YtajmbafljncjcaaSwap
namespace Go.Proofs.Ytajmbafljncjcaa.Stage
set_option linter.unusedVariables false
set_option linter.unusedSimpArgs false

/-- The fewest rows of what covers all. -/
theorem Cov.least {S : Nat → Nat} (hS : ∀ p, p < 1114112 → S p ≤ 65535) {l : List (Nat × Nat × Nat)} (h : Cov S 1114112 0 l) : RiseN 0 l ∧ RiseN 0 (nz (runsN [] 0 l)) ∧ (nz (runsN [] 0 l)).length ≤ 1114112 ∧ l.length ≤ 1114112 ∧ ∀ p, p < 1114112 → sayQ (nz (runsN [] 0 l)) p = S p := by
  have hr := Cov.rise (Nat.le_refl _) hS h
  have ht := runsN_ok hr
  refine ⟨hr, Til.nz_rise (Nat.le_refl _) (fun p _ => sayQ_le hr p) ht, ?_, ?_, fun p hp => ?_⟩
  · have h1 : (nz (runsN [] 0 l)).length ≤ _ := List.length_filter_le _ _
    have h2 := ht.length
    omega
  · have := h.length
    omega
  · have e1 := Til.nz_says (Nat.le_refl _) (fun p _ => sayQ_le hr p) ht p (Nat.zero_le _) hp
    rw [e1]
    unfold sayQ
    rw [h.says p (Nat.zero_le _) hp]
    rfl

theorem Til.cov_map {say : Nat → Nat} (f : Nat → Nat) {hi : Nat} : ∀ {l : List (Nat × Nat × Nat)} {low : Nat}, Til say hi low l → Cov (fun p => f (say p)) hi low (l.map fun x => (x.1, x.2.1, f x.2.2))
  | [], low, h => h
  | x :: l, low, h => ⟨h.1, h.2.1, fun p ha hb => congrArg f (h.2.2.1 p ha hb), h.2.2.2.2.cov_map f⟩

/-- The document's Swap, ahead of Least. -/
def swapR (n m : Nat) (q : List (Nat × Nat × Nat)) : List (Nat × Nat × Nat) := (runsN [] 0 q).map fun x => (x.1, x.2.1, if x.2.2 = n then m else x.2.2)
theorem swapR_ok {q : List (Nat × Nat × Nat)} (h : RiseN 0 q) (n m : Nat) (hm : m ≤ 65535) : RiseN 0 (swapR n m q) ∧ RiseN 0 (nz (runsN [] 0 (swapR n m q))) ∧ (nz (runsN [] 0 (swapR n m q))).length ≤ 1114112 ∧ (swapR n m q).length ≤ 1114112 ∧ ∀ p, p < 1114112 → sayQ (nz (runsN [] 0 (swapR n m q))) p = swapSay (sayQ q) n m p := by
  have hc := (runsN_ok h).cov_map (fun x => if x = n then m else x)
  exact hc.least (fun p hp => by have := sayQ_le h p; show (if sayQ q p = n then m else sayQ q p) ≤ 65535; split <;> omega)

/-- Stretches, cut at two code points. -/
def betwN (a b : Nat) : List (Nat × Nat × Nat) → List (Nat × Nat × Nat)
  | [] => []
  | x :: l => if max x.1 a ≤ min x.2.1 b then (max x.1 a, min x.2.1 b, x.2.2) :: betwN a b l else betwN a b l
theorem betwN_none {say : Nat → Nat} {a b hi : Nat} : ∀ {l : List (Nat × Nat × Nat)} {low : Nat}, Til say hi low l → b < low → betwN a b l = []
  | [], low, h, hb => rfl
  | x :: l, low, h, hb => by
    unfold betwN
    have := h.1
    have := h.2.1
    rw [if_neg (by omega)]
    exact betwN_none h.2.2.2.2 (by omega)
theorem betwN_til {say : Nat → Nat} {a b hi : Nat} (hab : a ≤ b) (hb : b < hi) : ∀ {l : List (Nat × Nat × Nat)} {low : Nat}, Til say hi low l → Til say (b + 1) (min (max low a) (b + 1)) (betwN a b l)
  | [], low, h => by
    have : low = hi := h
    show min (max low a) (b + 1) = b + 1
    omega
  | x :: l, low, h => by
    obtain ⟨h1, h2, h3, h4, h5⟩ := h
    have ih := betwN_til hab hb h5
    unfold betwN
    by_cases c : max x.1 a ≤ min x.2.1 b
    · rw [if_pos c]
      refine ⟨by simp only; omega, by simp only; omega, fun p ha hb2 => h3 p (by omega) (by simp only at hb2; omega), ?_, ?_⟩
      · intro z hz
        by_cases c2 : b ≤ x.2.1
        · rw [betwN_none h5 (by omega)] at hz
          cases hz
        · cases l with
          | nil => cases hz
          | cons y l =>
            obtain ⟨k1, k2, _⟩ := h5
            unfold betwN at hz
            rw [if_pos (by omega)] at hz
            simp only [List.head?_cons, Option.mem_def, Option.some.injEq] at hz
            subst hz
            exact h4 y rfl
      · rw [show min x.2.1 b + 1 = min (max (x.2.1 + 1) a) (b + 1) by omega]
        exact ih
    · rw [if_neg c]
      rw [show min (max low a) (b + 1) = min (max (x.2.1 + 1) a) (b + 1) by omega]
      exact ih
theorem betwN_len (a b : Nat) : ∀ l : List (Nat × Nat × Nat), (betwN a b l).length ≤ l.length
  | [] => Nat.le_refl _
  | x :: l => by
    have := betwN_len a b l
    unfold betwN
    split <;> simp only [List.length_cons] <;> omega

end Go.Proofs.Ytajmbafljncjcaa.Stage
