/- Plain lists: all code points in stretches of one number. No program here. -/
import Derived.Test.YtajmbafljncjcaaLayP
namespace Go.Proofs.Ytajmbafljncjcaa.Stage
set_option linter.unusedVariables false
set_option linter.unusedSimpArgs false

/-- Stretches that lie one behind the other from low up to (without) hi, each as long as its number lasts. -/
def Til (say : Nat → Nat) (hi : Nat) : Nat → List (Nat × Nat × Nat) → Prop
  | low, [] => low = hi
  | low, x :: l => x.1 = low ∧ low ≤ x.2.1 ∧ (∀ p, low ≤ p → p ≤ x.2.1 → say p = x.2.2) ∧ (∀ z ∈ l.head?, z.2.2 ≠ x.2.2) ∧ Til say hi (x.2.1 + 1) l

theorem Til.le {say : Nat → Nat} {hi : Nat} : ∀ {l : List (Nat × Nat × Nat)} {low : Nat}, Til say hi low l → low ≤ hi
  | [], low, h => Nat.le_of_eq h
  | x :: l, low, h => by have := h.2.2.2.2.le; have := h.2.1; omega
theorem Til.mem {say : Nat → Nat} {hi : Nat} : ∀ {l : List (Nat × Nat × Nat)} {low : Nat}, Til say hi low l → ∀ x ∈ l, low ≤ x.1 ∧ x.1 ≤ x.2.1 ∧ x.2.1 < hi ∧ ∀ p, x.1 ≤ p → p ≤ x.2.1 → say p = x.2.2
  | [], low, h, x, hx => by cases hx
  | y :: l, low, h, x, hx => by
    obtain ⟨h1, h2, h3, h4, h5⟩ := h
    rcases List.mem_cons.1 hx with rfl | hx
    · exact ⟨by omega, by omega, h5.le, fun p ha hb => h3 p (by omega) hb⟩
    · obtain ⟨k1, k2, k3, k4⟩ := h5.mem x hx
      exact ⟨by omega, k2, k3, k4⟩
theorem Til.uniq {say : Nat → Nat} {hi : Nat} : ∀ {l l' : List (Nat × Nat × Nat)} {low : Nat}, Til say hi low l → Til say hi low l' → l = l'
  | [], [], _, _, _ => rfl
  | [], x :: l, low, h, h' => by have := h'.2.2.2.2.le; have := h'.2.1; have : low = hi := h; omega
  | x :: l, [], low, h', h => by have := h'.2.2.2.2.le; have := h'.2.1; have : low = hi := h; omega
  | x :: l, y :: k, low, h, h' => by
    obtain ⟨a1, a2, a3, a4, a5⟩ := h
    obtain ⟨b1, b2, b3, b4, b5⟩ := h'
    have en : x.2.2 = y.2.2 := (a3 low (Nat.le_refl _) a2).symm.trans (b3 low (Nat.le_refl _) b2)
    have aux : ∀ (x y : Nat × Nat × Nat) (l : List (Nat × Nat × Nat)) (hi : Nat), x.2.2 = y.2.2 → low ≤ x.2.1 → (∀ z ∈ l.head?, z.2.2 ≠ x.2.2) → Til say hi (x.2.1 + 1) l → (∀ p, low ≤ p → p ≤ y.2.1 → say p = y.2.2) → y.2.1 + 1 ≤ hi → ¬ x.2.1 < y.2.1 := by
      intro x y l hi en hx h4 h5 h3 hle hlt
      cases l with
      | nil => have : x.2.1 + 1 = hi := h5; omega
      | cons z l =>
        have hz := h4 z rfl
        obtain ⟨c1, c2, c3, _⟩ := h5
        have e1 := c3 (x.2.1 + 1) (Nat.le_refl _) c2
        have e2 := h3 (x.2.1 + 1) (by omega) (by omega)
        exact hz (by rw [← e1, e2, en])
    have n1 := aux x y l hi en a2 a4 a5 b3 b5.le
    have n2 := aux y x k hi en.symm b2 b4 b5 a3 a5.le
    have e : x.2.1 = y.2.1 := by omega
    rw [e] at a5
    have := a5.uniq b5
    subst this
    obtain ⟨x1, x2, x3⟩ := x
    obtain ⟨y1, y2, y3⟩ := y
    simp only at *
    subst e en a1 b1
    rfl
theorem Til.length {say : Nat → Nat} {hi : Nat} : ∀ {l : List (Nat × Nat × Nat)} {low : Nat}, Til say hi low l → low + l.length ≤ hi
  | [], low, h => Nat.le_of_eq h
  | x :: l, low, h => by have := h.2.2.2.2.length; have := h.2.1; simp only [List.length_cons]; omega
theorem Til.congr {say say' : Nat → Nat} {hi : Nat} (he : ∀ p, p < hi → say p = say' p) : ∀ {l : List (Nat × Nat × Nat)} {low : Nat}, Til say hi low l → Til say' hi low l
  | [], low, h => h
  | x :: l, low, h => by
    have hh := h.2.2.2.2.le
    exact ⟨h.1, h.2.1, fun p ha hb => by rw [← he p (by omega)]; exact h.2.2.1 p ha hb, h.2.2.2.1, h.2.2.2.2.congr he⟩

/-- A stretch more, joined with the last one if it has the same number. -/
def addN (l : List (Nat × Nat × Nat)) (x : Nat × Nat × Nat) : List (Nat × Nat × Nat) :=
  match l with
  | [] => [x]
  | [y] => if y.2.2 = x.2.2 then [(y.1, x.2.1, y.2.2)] else [y, x]
  | y :: z :: t => y :: addN (z :: t) x
theorem addN_snoc (l : List (Nat × Nat × Nat)) (y x : Nat × Nat × Nat) : addN (l ++ [y]) x = l ++ (if y.2.2 = x.2.2 then [(y.1, x.2.1, y.2.2)] else [y, x]) := by
  induction l with
  | nil => simp [addN]
  | cons a l ih =>
    cases l with
    | nil => simp only [List.cons_append, List.nil_append, addN]
    | cons b l => simp only [List.cons_append, addN] at ih ⊢; rw [ih]
theorem addN_head (l : List (Nat × Nat × Nat)) (x : Nat × Nat × Nat) (h : l ≠ []) : ∃ z w, l.head? = some z ∧ (addN l x).head? = some w ∧ w.2.2 = z.2.2 := by
  match l with
  | [] => exact absurd rfl h
  | [y] => simp only [addN]; split <;> exact ⟨y, _, rfl, rfl, rfl⟩
  | y :: z :: t => exact ⟨y, y, rfl, rfl, rfl⟩
theorem addN_ne (l : List (Nat × Nat × Nat)) (x : Nat × Nat × Nat) : addN l x ≠ [] := by
  match l with
  | [] => simp [addN]
  | [y] => simp only [addN]; split <;> simp
  | y :: z :: t => simp [addN]
theorem addN_len (l : List (Nat × Nat × Nat)) (x : Nat × Nat × Nat) : (addN l x).length ≤ l.length + 1 := by
  match l with
  | [] => simp [addN]
  | [y] => simp only [addN]; split <;> simp
  | y :: z :: t => have := addN_len (z :: t) x; simp only [addN, List.length_cons] at *; omega
theorem Til.add {say : Nat → Nat} {hi : Nat} {x : Nat × Nat × Nat} (h1 : x.1 = hi) (h2 : hi ≤ x.2.1) (h3 : ∀ p, hi ≤ p → p ≤ x.2.1 → say p = x.2.2) :
    ∀ {l : List (Nat × Nat × Nat)} {low : Nat}, Til say hi low l → Til say (x.2.1 + 1) low (addN l x)
  | [], low, h => by
    obtain rfl : low = hi := h
    exact ⟨h1, h2, h3, (fun z hz => by cases hz), rfl⟩
  | [y], low, h => by
    obtain ⟨a1, a2, a3, a4, a5⟩ := h
    have a5 : y.2.1 + 1 = hi := a5
    simp only [addN]
    split
    · rename_i e
      exact ⟨a1, by simp only; omega, fun p ha hb => by
        simp only at hb
        by_cases hp : p ≤ y.2.1
        · exact a3 p ha hp
        · rw [h3 p (by omega) hb]; exact e.symm, (fun z hz => by cases hz), rfl⟩
    · rename_i e
      refine ⟨a1, a2, a3, fun z hz => ?_, by omega, by omega, fun p ha hb => h3 p (by omega) hb, (fun z hz => by cases hz), rfl⟩
      simp only [List.head?_cons, Option.mem_def, Option.some.injEq] at hz
      subst hz
      exact fun h => e h.symm
  | y :: z :: t, low, h => by
    obtain ⟨a1, a2, a3, a4, a5⟩ := h
    refine ⟨a1, a2, a3, fun w hw => ?_, Til.add h1 h2 h3 a5⟩
    obtain ⟨z', w', e1, e2, e3⟩ := addN_head (z :: t) x (by simp)
    rw [e2] at hw
    simp only [Option.mem_def, Option.some.injEq] at hw
    subst hw
    rw [e3]
    exact a4 z' e1

/-- All code points by rows, in stretches. -/
def runsN : List (Nat × Nat × Nat) → Nat → List (Nat × Nat × Nat) → List (Nat × Nat × Nat)
  | out, next, [] => if next ≤ 1114111 then addN out (next, 1114111, 0) else out
  | out, next, x :: l => if next < x.1 then runsN (addN (addN out (next, x.1 - 1, 0)) x) (x.2.1 + 1) l else runsN (addN out x) (x.2.1 + 1) l

theorem sayR_low {l : List (Nat × Nat × Nat)} {low p : Nat} (h : RiseN low l) (hp : p < low) : sayR l p = none := by
  cases hs : sayR l p with
  | none => rfl
  | some n => have := (sayR_le h hs).2.1; omega
theorem sayR_cons (x : Nat × Nat × Nat) (l : List (Nat × Nat × Nat)) (p : Nat) : sayR (x :: l) p = if x.1 ≤ p ∧ p ≤ x.2.1 then some x.2.2 else sayR l p := by
  unfold sayR
  by_cases h : x.1 ≤ p ∧ p ≤ x.2.1
  · simp [List.find?, h]
  · simp [List.find?, h]
theorem runsN_til {say : Nat → Nat} : ∀ (l out : List (Nat × Nat × Nat)) (next : Nat), RiseN next l → next ≤ 1114112 → (∀ p, next ≤ p → p ≤ 1114111 → say p = (sayR l p).getD 0) → Til say next 0 out → Til say 1114112 0 (runsN out next l)
  | [], out, next, hr, hn, hs, ht => by
    unfold runsN
    split
    · exact Til.add (x := (next, 1114111, 0)) rfl (by simpa using ‹_›) (fun p ha hb => hs p ha hb) ht
    · have e : next = 1114112 := by omega
      subst e; exact ht
  | x :: l, out, next, hr, hn, hs, ht => by
    obtain ⟨r1, r2, r3, r4, r5⟩ := hr
    have hs' : ∀ p, x.2.1 + 1 ≤ p → p ≤ 1114111 → say p = (sayR l p).getD 0 := fun p ha hb => by
      rw [hs p (by omega) hb, sayR_cons, if_neg (by omega)]
    have hx : ∀ p, x.1 ≤ p → p ≤ x.2.1 → say p = x.2.2 := fun p ha hb => by
      rw [hs p (by omega) (by omega), sayR_cons, if_pos ⟨ha, hb⟩]; rfl
    unfold runsN
    split
    · rename_i hlt
      refine runsN_til l _ _ r5 (by omega) hs' (Til.add (by omega) r2 hx ?_)
      have := Til.add (x := (next, x.1 - 1, 0)) rfl (by simp only; omega) (fun p ha hb => by
        simp only at hb
        rw [hs p ha (by omega), sayR_cons, if_neg (by omega), sayR_low r5 (by omega)]; rfl) ht
      simpa [Nat.sub_add_cancel (show 1 ≤ x.1 by omega)] using this
    · rename_i hge
      have e : next = x.1 := by omega
      subst e
      exact runsN_til l _ _ r5 (by omega) hs' (Til.add rfl r2 hx ht)
theorem runsN_ok {l : List (Nat × Nat × Nat)} (h : RiseN 0 l) : Til (fun p => (sayR l p).getD 0) 1114112 0 (runsN [] 0 l) :=
  runsN_til l [] 0 h (by omega) (fun p _ _ => rfl) rfl

end Go.Proofs.Ytajmbafljncjcaa.Stage
