/- Where, in plain: the document's rows over the spans. No program here. -/
import Derived.Test.YtajmbafljncjcaaWhr
namespace Go.Proofs.Ytajmbafljncjcaa.Stage
set_option linter.unusedVariables false
set_option linter.unusedSimpArgs false

def rowsS (l : List (Int × Int)) : List (Nat × Nat × Nat) := l.map fun x => (x.1.toNat, x.2.toNat, 1)
def overW (R sp : List (Nat × Nat × Nat)) : List (Nat × Nat × Nat) := sp.flatMap fun s => betwN s.1 s.2.1 R
theorem rowsS_from : ∀ (l : List (Int × Int)) (low : Nat), setFrom (low : Int) l = true → RiseN low (rowsS l)
  | [], low, h => trivial
  | x :: l, low, h => by
    simp only [setFrom, Bool.and_eq_true, decide_eq_true_eq] at h
    obtain ⟨⟨h1, h2⟩, h3⟩ := h
    have hm : 0 ≤ x.1 ∧ x.1 ≤ x.2 ∧ x.2 ≤ 1114111 := of_decide_eq_true h1
    have ih := rowsS_from l (x.2.toNat + 2) (by rw [show ((x.2.toNat + 2 : Nat) : Int) = x.2 + 2 by omega]; exact h3)
    refine ⟨by show low ≤ x.1.toNat; omega, by show x.1.toNat ≤ x.2.toNat; omega, by show x.2.toNat ≤ 1114111; omega, by show 1 ≤ 65535; omega, ?_⟩
    show RiseN (x.2.toNat + 1) (rowsS l)
    generalize rowsS l = r at ih ⊢
    cases r with
    | nil => trivial
    | cons y r => exact ⟨by have := ih.1; omega, ih.2⟩
theorem rowsS_rise {l : List (Int × Int)} (h : isSet l = true) : RiseN 0 (rowsS l) := by
  unfold isSet at h
  rw [Bool.and_eq_true] at h
  exact rowsS_from l 0 h.1
theorem cov_rise_append {S : Nat → Nat} {mid : Nat} (hh : mid ≤ 1114112) (hs : ∀ p, S p ≤ 65535) {k : List (Nat × Nat × Nat)} (hk : RiseN mid k) : ∀ {l : List (Nat × Nat × Nat)} {low : Nat}, Cov S mid low l → RiseN low (l ++ k)
  | [], low, h => by obtain rfl : low = mid := h; exact hk
  | x :: l, low, h => by
    obtain ⟨h1, h2, h3, h4⟩ := h
    have := h4.le
    exact ⟨by omega, by omega, by omega, by rw [← h3 low (Nat.le_refl _) h2]; exact hs _, cov_rise_append hh hs hk h4⟩
theorem cov_say_append {S : Nat → Nat} {mid : Nat} {k : List (Nat × Nat × Nat)} (p : Nat) : ∀ {l : List (Nat × Nat × Nat)} {low : Nat}, Cov S mid low l → sayR (l ++ k) p = if low ≤ p ∧ p < mid then some (S p) else sayR k p
  | [], low, h => by obtain rfl : low = mid := h; rw [if_neg (by omega)]; rfl
  | x :: l, low, h => by
    obtain ⟨h1, h2, h3, h4⟩ := h
    have hle := h4.le
    have ih := cov_say_append (k := k) p h4
    rw [List.cons_append, sayR_cons]
    by_cases c : x.1 ≤ p ∧ p ≤ x.2.1
    · rw [if_pos c, if_pos (by omega), h3 p (by omega) c.2]
    · rw [if_neg c, ih]
      by_cases c2 : x.2.1 + 1 ≤ p ∧ p < mid
      · rw [if_pos c2, if_pos (by omega)]
      · rw [if_neg c2, if_neg (by omega)]
theorem rise_low {r : List (Nat × Nat × Nat)} {a b : Nat} (h : RiseN a r) (hb : b ≤ a) : RiseN b r := by
  cases r with
  | nil => trivial
  | cons y r => exact ⟨Nat.le_trans hb h.1, h.2⟩
theorem betwN_cov {S : Nat → Nat} {R : List (Nat × Nat × Nat)} (hR : Til S 1114112 0 R) {a b : Nat} (hab : a ≤ b) (hb : b ≤ 1114111) : Cov S (b + 1) a (betwN a b R) := by
  have h := (betwN_til hab (show b < 1114112 by omega) hR).cov_map (fun n => n)
  rw [show min (max 0 a) (b + 1) = a by omega] at h
  simpa using h
theorem overW_ok {S : Nat → Nat} (hs : ∀ p, S p ≤ 65535) {R : List (Nat × Nat × Nat)} (hR : Til S 1114112 0 R) : ∀ (sp : List (Nat × Nat × Nat)) (low : Nat), low ≤ 1114112 → RiseN low sp → RiseN low (overW R sp) ∧ low + (overW R sp).length ≤ 1114112 ∧ ∀ p, sayR (overW R sp) p = (sayR sp p).map fun _ => S p
  | [], low, hl, h => ⟨trivial, hl, fun p => rfl⟩
  | s :: sp, low, hl, h => by
    obtain ⟨h1, h2, h3, h4, h5⟩ := h
    obtain ⟨i1, i2, i3⟩ := overW_ok hs hR sp (s.2.1 + 1) (by omega) h5
    have hc := betwN_cov hR h2 h3
    have e : overW R (s :: sp) = betwN s.1 s.2.1 R ++ overW R sp := by unfold overW; rw [List.flatMap_cons]
    rw [e]
    refine ⟨rise_low (cov_rise_append (by omega) hs i1 hc) h1, ?_, fun p => ?_⟩
    · have := hc.length
      rw [List.length_append]
      omega
    · rw [cov_say_append p hc, sayR_cons, i3]
      by_cases c : s.1 ≤ p ∧ p ≤ s.2.1
      · rw [if_pos c, if_pos (by omega)]; rfl
      · rw [if_neg c, if_neg (by omega)]
theorem runs_same {q : List (Nat × Nat × Nat)} (h : RiseN 0 q) : RiseN 0 (runsN [] 0 q) ∧ (runsN [] 0 q).length ≤ 1114112 ∧ ∀ p, p < 1114112 → sayQ (runsN [] 0 q) p = sayQ q p := by
  have ht := runsN_ok h
  have hc := ht.cov_map (fun n => n)
  simp at hc
  refine ⟨Cov.rise (Nat.le_refl _) (fun p _ => sayQ_le h p) hc, by have := ht.length; omega, fun p hp => ?_⟩
  unfold sayQ
  rw [hc.says p (Nat.zero_le _) hp]
  rfl
theorem sayR_some : ∀ (q : List (Nat × Nat × Nat)) (p : Nat), (sayR q p).isSome = true ↔ ∃ i, i < q.length ∧ (q.getD i z3).1 ≤ p ∧ p ≤ (q.getD i z3).2.1
  | [], p => by simp [sayR]
  | x :: q, p => by
    rw [sayR_cons]
    by_cases c : x.1 ≤ p ∧ p ≤ x.2.1
    · rw [if_pos c]
      exact ⟨fun _ => ⟨0, by simp, c.1, c.2⟩, fun _ => rfl⟩
    · rw [if_neg c, sayR_some q p]
      constructor
      · rintro ⟨i, h1, h2, h3⟩; exact ⟨i + 1, by simpa using h1, h2, h3⟩
      · rintro ⟨i, h1, h2, h3⟩
        cases i with
        | zero => exact absurd ⟨h2, h3⟩ c
        | succ i => exact ⟨i, by simpa using h1, h2, h3⟩
theorem rowsS_at (l : List (Int × Int)) (i : Nat) (h : i < l.length) : (rowsS l).getD i z3 = ((l.getD i (0, 0)).1.toNat, (l.getD i (0, 0)).2.toNat, 1) := by
  unfold rowsS
  simp only [List.getD_eq_getElem?_getD, List.getElem?_map, List.getElem?_eq_getElem h, Option.map_some, Option.getD_some]
theorem hasS_rows {l : List (Int × Int)} (h : isSet l = true) (p : Nat) : hasS (p : Int) l = (sayR (rowsS l) p).isSome := by
  rw [Bool.eq_iff_iff, hasS_iff h, sayR_some]
  have hlen : (rowsS l).length = l.length := List.length_map ..
  constructor
  · rintro ⟨i, h1, h2, h3⟩
    refine ⟨i, by omega, ?_⟩
    rw [rowsS_at l i h1]
    exact ⟨by simp only; omega, by simp only; omega⟩
  · rintro ⟨i, h1, h2⟩
    rw [hlen] at h1
    rw [rowsS_at l i h1] at h2
    have := (isSet_get h h1).1
    simp only at h2
    exact ⟨i, h1, by omega, by omega⟩
/-- What the document's Where comes to. -/
def whereN (l : List (Int × Int)) (a b : List (Nat × Nat × Nat)) : List (Nat × Nat × Nat) := bothN (runsN [] 0 b) (overW (runsN [] 0 a) (rowsS l))
theorem whereN_ok {l : List (Int × Int)} (h : isSet l = true) {a b : List (Nat × Nat × Nat)} (ha : RiseN 0 a) (hb : RiseN 0 b) :
    RiseN 0 (runsN [] 0 b) ∧ (runsN [] 0 b).length ≤ 1114112 ∧ RiseN 0 (overW (runsN [] 0 a) (rowsS l)) ∧ (overW (runsN [] 0 a) (rowsS l)).length ≤ 1114112 ∧ RiseN 0 (whereN l a b) ∧ (whereN l a b).length ≤ 1114112 ∧ ∀ p, p < 1114112 → sayQ (whereN l a b) p = whereSay l (sayQ a) (sayQ b) p := by
  obtain ⟨b1, b2, b3⟩ := runs_same hb
  obtain ⟨o1, o2, o3⟩ := overW_ok (S := sayQ a) (fun p => sayQ_le ha p) (runsN_ok ha) (rowsS l) 0 (by omega) (rowsS_rise h)
  refine ⟨b1, b2, o1, by omega, bothN_rise b1 o1, ?_, fun p hp => ?_⟩
  · have h1 : (nz (runsN [] 0 (overN (runsN [] 0 b) (overW (runsN [] 0 a) (rowsS l))))).length ≤ _ := List.length_filter_le _ _
    have h2 := (runsN_ok (overN_rise b1 o1)).length
    unfold whereN bothN
    omega
  · unfold whereN
    rw [bothN_says b1 o1 p hp]
    unfold overSay whereSay
    rw [o3, hasS_rows h]
    cases sayR (rowsS l) p with
    | none => exact b3 p hp
    | some n => rfl

end Go.Proofs.Ytajmbafljncjcaa.Stage
