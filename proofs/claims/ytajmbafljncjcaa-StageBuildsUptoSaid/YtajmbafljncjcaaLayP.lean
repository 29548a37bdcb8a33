/- Plain lists: rows laid over a block. No program here. -/
import Derived.Test.YtajmbafljncjcaaCanon
namespace Go.Proofs.Ytajmbafljncjcaa.Stage
set_option linter.unusedVariables false
set_option linter.unusedSimpArgs false

/-- What rows say of a code point, if anything. -/
def sayR (l : List (Nat × Nat × Nat)) (p : Nat) : Option Nat := (l.find? fun r => decide (r.1 ≤ p ∧ p ≤ r.2.1)).map (·.2.2)

/-- Rows that rise and lie apart, from at least so much on. -/
def RiseN : Nat → List (Nat × Nat × Nat) → Prop
  | _, [] => True
  | low, r :: l => low ≤ r.1 ∧ r.1 ≤ r.2.1 ∧ r.2.1 ≤ 1114111 ∧ r.2.2 ≤ 65535 ∧ RiseN (r.2.1 + 1) l

abbrev z3 : Nat × Nat × Nat := (0, 0, 0)

theorem RiseN.at_ : ∀ {l : List (Nat × Nat × Nat)} {low : Nat}, RiseN low l → ∀ i, i < l.length → low ≤ (l.getD i z3).1 ∧ (l.getD i z3).1 ≤ (l.getD i z3).2.1 ∧ (l.getD i z3).2.1 ≤ 1114111 ∧ (l.getD i z3).2.2 ≤ 65535
  | [], _, _, i, h => by simp at h
  | r :: l, low, h, 0, _ => by obtain ⟨h1, h2, h3, h4, _⟩ := h; exact ⟨h1, h2, h3, h4⟩
  | r :: l, low, h, i + 1, hi => by
    obtain ⟨h1, h2, h3, h4, h5⟩ := h
    have := h5.at_ i (by simpa using hi)
    simp only [List.getD_cons_succ]
    omega
theorem RiseN.lt : ∀ {l : List (Nat × Nat × Nat)} {low : Nat}, RiseN low l → ∀ i j, i < j → j < l.length → (l.getD i z3).2.1 < (l.getD j z3).1
  | [], _, _, i, j, _, h => by simp at h
  | r :: l, low, h, 0, j + 1, _, hj => by
    have := h.2.2.2.2.at_ j (by simpa using hj)
    simp only [List.getD_cons_zero, List.getD_cons_succ]
    omega
  | r :: l, low, h, i + 1, j + 1, hij, hj => by
    have := h.2.2.2.2.lt i j (by omega) (by simpa using hj)
    simpa using this

theorem sayR_snoc (l : List (Nat × Nat × Nat)) (r : Nat × Nat × Nat) (p : Nat) : sayR (l ++ [r]) p = (sayR l p).or (if r.1 ≤ p ∧ p ≤ r.2.1 then some r.2.2 else none) := by
  unfold sayR
  rw [List.find?_append]
  cases h : l.find? fun r => decide (r.1 ≤ p ∧ p ≤ r.2.1) with
  | some x => simp
  | none =>
    by_cases hp : r.1 ≤ p ∧ p ≤ r.2.1
    · simp [List.find?, hp]
    · simp [List.find?, hp]

theorem sayR_none {l : List (Nat × Nat × Nat)} {p : Nat} (h : ∀ i, i < l.length → ¬ ((l.getD i z3).1 ≤ p ∧ p ≤ (l.getD i z3).2.1)) : sayR l p = none := by
  unfold sayR
  rw [Option.map_eq_none_iff, List.find?_eq_none]
  intro r hr
  obtain ⟨i, hi, e⟩ := List.mem_iff_getElem.1 hr
  have := h i hi
  rw [List.getD_eq_getElem?_getD, List.getElem?_eq_getElem hi] at this
  simp only [Option.getD_some, e] at this
  simpa using this

theorem sayR_append_none (l l' : List (Nat × Nat × Nat)) (p : Nat) (h : sayR l' p = none) : sayR (l ++ l') p = sayR l p := by
  unfold sayR at *
  rw [List.find?_append]
  rw [Option.map_eq_none_iff] at h
  rw [h]; simp

theorem sayR_le {l : List (Nat × Nat × Nat)} {low p n : Nat} (hr : RiseN low l) (h : sayR l p = some n) : n ≤ 65535 ∧ low ≤ p ∧ p ≤ 1114111 := by
  unfold sayR at h
  obtain ⟨r, h1, h2⟩ := Option.map_eq_some_iff.1 h
  have hm := List.mem_of_find?_eq_some h1
  have hp := List.find?_some h1
  obtain ⟨i, hi, e⟩ := List.mem_iff_getElem.1 hm
  have := hr.at_ i hi
  rw [List.getD_eq_getElem?_getD, List.getElem?_eq_getElem hi] at this
  simp only [Option.getD_some, e] at this
  simp at hp
  omega

/-- A block with rows laid over it. -/
def layB (l : List (Nat × Nat × Nat)) (f : Nat) (cur : List Nat) : List Nat := (List.range 128).map fun j => (sayR l (f + j)).getD (cur.getD j 0)
/-- The same, with the numbers of a row from the last code point laid. -/
def midB (l : List (Nat × Nat × Nat)) (f : Nat) (cur : List Nat) (a p n : Nat) : List Nat := (List.range 128).map fun j => if a ≤ f + j ∧ f + j < p then n else (sayR l (f + j)).getD (cur.getD j 0)

theorem layB_len (l : List (Nat × Nat × Nat)) (f : Nat) (cur : List Nat) : (layB l f cur).length = 128 := by simp [layB]
theorem midB_len (l : List (Nat × Nat × Nat)) (f : Nat) (cur : List Nat) (a p n : Nat) : (midB l f cur a p n).length = 128 := by simp [midB]
theorem layB_get (l : List (Nat × Nat × Nat)) (f : Nat) (cur : List Nat) (j : Nat) (h : j < 128) : (layB l f cur).getD j 0 = (sayR l (f + j)).getD (cur.getD j 0) := by
  simp [layB, List.getD_eq_getElem?_getD, h]
theorem list_ext_getD {xs ys : List Nat} (hl : xs.length = 128) (hl' : ys.length = 128) (h : ∀ j, j < 128 → xs.getD j 0 = ys.getD j 0) : xs = ys := by
  apply List.ext_getElem (by omega)
  intro i h1 h2
  have := h i (by omega)
  simpa [List.getD_eq_getElem?_getD, List.getElem?_eq_getElem h1, List.getElem?_eq_getElem h2] using this
theorem layB_nil (f : Nat) (cur : List Nat) (h : cur.length = 128) : layB [] f cur = cur :=
  list_ext_getD (layB_len _ _ _) h fun j hj => by rw [layB_get _ _ _ _ hj]; rfl
theorem layB_none (l : List (Nat × Nat × Nat)) (f : Nat) (cur : List Nat) (h : cur.length = 128) (hn : ∀ j, j < 128 → sayR l (f + j) = none) : layB l f cur = cur :=
  list_ext_getD (layB_len _ _ _) h fun j hj => by rw [layB_get _ _ _ _ hj, hn j hj]; rfl
theorem layB_append_none (l l' : List (Nat × Nat × Nat)) (f : Nat) (cur : List Nat) (hn : ∀ j, j < 128 → sayR l' (f + j) = none) : layB (l ++ l') f cur = layB l f cur :=
  list_ext_getD (layB_len _ _ _) (layB_len _ _ _) fun j hj => by rw [layB_get _ _ _ _ hj, layB_get _ _ _ _ hj, sayR_append_none _ _ _ (hn j hj)]
theorem midB_start (l : List (Nat × Nat × Nat)) (f : Nat) (cur : List Nat) (a n : Nat) : midB l f cur a a n = layB l f cur := by
  unfold midB layB
  refine List.map_congr_left fun j _ => ?_
  rw [if_neg (by omega)]
theorem midB_step (l : List (Nat × Nat × Nat)) (f : Nat) (cur : List Nat) (a p n : Nat) (h0 : a ≤ p) (h1 : f ≤ p) (h2 : p < f + 128) : (midB l f cur a p n).set (p - f) n = midB l f cur a (p + 1) n := by
  apply List.ext_getElem (by simp [midB])
  intro i h3 h4
  have hi : i < 128 := by simpa [midB] using h4
  simp only [midB, List.getElem_set, List.getElem_map, List.getElem_range]
  by_cases e : p - f = i
  · rw [if_pos e, if_pos (by omega)]
  · rw [if_neg e]
    by_cases c : a ≤ f + i ∧ f + i < p
    · rw [if_pos c, if_pos (by omega)]
    · rw [if_neg c, if_neg (by omega)]
/-- Behind a row: it is laid. -/
theorem midB_end (l : List (Nat × Nat × Nat)) (f : Nat) (cur : List Nat) (r : Nat × Nat × Nat) (p : Nat) (hp : p = min r.2.1 (f + 127) + 1) (hn : ∀ q, r.1 ≤ q → q ≤ r.2.1 → sayR l q = none) :
    midB l f cur (max r.1 f) p r.2.2 = layB (l ++ [r]) f cur := by
  unfold midB layB
  refine List.map_congr_left fun j hj => ?_
  have hj' := List.mem_range.1 hj
  rw [sayR_snoc]
  by_cases c : r.1 ≤ f + j ∧ f + j ≤ r.2.1
  · rw [if_pos (by omega), hn _ c.1 c.2]; simp [c]
  · rw [if_neg (by omega)]; simp [c]
/-- .. nothing of it, where it lies wholly ahead. -/
theorem midB_end' (l : List (Nat × Nat × Nat)) (f : Nat) (cur : List Nat) (r : Nat × Nat × Nat) (p : Nat) (hp : p = max r.1 f) (hn : r.2.1 < f ∨ f + 127 < r.1) :
    midB l f cur (max r.1 f) p r.2.2 = layB (l ++ [r]) f cur := by
  rw [hp, midB_start]
  unfold layB
  refine List.map_congr_left fun j hj => ?_
  have hj' := List.mem_range.1 hj
  rw [sayR_snoc]
  have : ¬ (r.1 ≤ f + j ∧ f + j ≤ r.2.1) := by omega
  simp [this]

theorem getD_take (l : List (Nat × Nat × Nat)) (m i : Nat) (h : i < m) : (l.take m).getD i z3 = l.getD i z3 := by
  simp [List.getD_eq_getElem?_getD, h]
theorem getD_drop (l : List (Nat × Nat × Nat)) (m i : Nat) : (l.drop m).getD i z3 = l.getD (m + i) z3 := by
  simp [List.getD_eq_getElem?_getD, List.getElem?_drop]
theorem take_snoc3 (l : List (Nat × Nat × Nat)) (k : Nat) (h : k < l.length) : l.take (k + 1) = l.take k ++ [l.getD k z3] := by
  rw [List.take_succ_eq_append_getElem h]
  simp [List.getD_eq_getElem?_getD, List.getElem?_eq_getElem h]
theorem lay_past {l : List (Nat × Nat × Nat)} {f m : Nat} {cur : List Nat} (hc : cur.length = 128) (hp : ∀ i, i < m → (l.getD i z3).2.1 < f) : layB (l.take m) f cur = cur :=
  layB_none _ _ _ hc fun j hj => sayR_none fun i hi => by
    have hi' : i < m := by rw [List.length_take] at hi; omega
    rw [getD_take _ _ _ hi']
    have := hp i hi'
    omega
theorem lay_rest {l : List (Nat × Nat × Nat)} {f k : Nat} {cur : List Nat} (hr : RiseN 0 l) (hk : k < l.length → f + 127 < (l.getD k z3).1) : layB l f cur = layB (l.take k) f cur := by
  have e : l = l.take k ++ l.drop k := (List.take_append_drop k l).symm
  conv => lhs; rw [e]
  refine layB_append_none _ _ _ _ fun j hj => sayR_none fun i hi => ?_
  rw [List.length_drop] at hi
  rw [getD_drop]
  have h0 := hk (by omega)
  rcases Nat.eq_zero_or_pos i with h1 | h1
  · subst h1; simp only [Nat.add_zero]; omega
  · have h2 := hr.lt k (k + i) (by omega) (by omega)
    have h3 := hr.at_ k (by omega)
    omega
theorem lay_row {l : List (Nat × Nat × Nat)} {f k : Nat} {cur : List Nat} (hr : RiseN 0 l) (hk : k < l.length) :
    midB (l.take k) f cur (max (l.getD k z3).1 f) (min (l.getD k z3).2.1 (f + 127) + 1) (l.getD k z3).2.2 = layB (l.take (k + 1)) f cur := by
  rw [take_snoc3 l k hk]
  refine midB_end _ _ _ _ _ rfl fun q h1 h2 => sayR_none fun i hi => ?_
  rw [List.length_take] at hi
  rw [getD_take _ _ _ (by omega)]
  have := hr.lt i k (by omega) hk
  omega

end Go.Proofs.Ytajmbafljncjcaa.Stage
