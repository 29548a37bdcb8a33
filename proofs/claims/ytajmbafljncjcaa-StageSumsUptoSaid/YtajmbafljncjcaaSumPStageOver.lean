/- StageSums, in plain: counts of pairs, and of unlike code points. No program here. -/
import Derived.Test.YtajmbafljncjcaaPrsCStageOver
import Derived.Test.YtajmbafljncjcaaDifStageOver
import Derived.Test.YtajmbafljncjcaaWhr
import Derived.Test.YtajmbafljncjcaaSame
namespace Go.Proofs.Ytajmbafljncjcaa.PStageOver
open Go.Proofs.Ytajmbafljncjcaa.Stage Go.Proofs.Ytajmbafljncjcaa.Mp
set_option linter.unusedVariables false
set_option linter.unusedSimpArgs false

def cntQ (P : Nat → Bool) : Nat → Nat → Nat
  | _, 0 => 0
  | low, n + 1 => (if P low = true then 1 else 0) + cntQ P (low + 1) n
theorem cntQ_add (P : Nat → Bool) (b : Nat) : ∀ (a low : Nat), cntQ P low (a + b) = cntQ P low a + cntQ P (low + a) b
  | 0, low => by simp [cntQ]
  | a + 1, low => by
    rw [show a + 1 + b = (a + b) + 1 by omega]
    simp only [cntQ]
    rw [cntQ_add P b a (low + 1), show low + 1 + a = low + (a + 1) by omega]
    omega
theorem cntQ_const (P : Nat → Bool) (v : Bool) : ∀ (n low : Nat), (∀ p, low ≤ p → p < low + n → P p = v) → cntQ P low n = if v = true then n else 0
  | 0, low, h => by cases v <;> rfl
  | n + 1, low, h => by
    have ih := cntQ_const P v n (low + 1) (fun p h1 h2 => h p (by omega) (by omega))
    simp only [cntQ]
    rw [ih, h low (Nat.le_refl _) (by omega)]
    cases v
    · rfl
    · simp only [if_true]; omega
theorem cntQ_not (P : Nat → Bool) : ∀ (n low : Nat), cntQ P low n + cntQ (fun p => !P p) low n = n
  | 0, low => rfl
  | n + 1, low => by
    have ih := cntQ_not P n (low + 1)
    have hc : P low = true ∨ P low = false := by cases P low <;> simp
    simp only [cntQ]
    rcases hc with hc | hc
    · rw [if_pos hc, if_neg (by rw [hc]; decide)]; omega
    · rw [if_neg (by rw [hc]; decide), if_pos (by rw [hc]; rfl)]; omega
theorem cntQ_congr {P P' : Nat → Bool} : ∀ (n low : Nat), (∀ p, low ≤ p → p < low + n → P p = P' p) → cntQ P low n = cntQ P' low n
  | 0, low, h => rfl
  | n + 1, low, h => by
    simp only [cntQ]
    rw [cntQ_congr n (low + 1) (fun p h1 h2 => h p (by omega) (by omega)), h low (Nat.le_refl _) (by omega)]
/-- The code points of stretches of which something holds. -/
def lenQ (Q : Nat → Bool) : List (Nat × Nat × Nat) → Nat
  | [] => 0
  | x :: l => (if Q x.2.2 = true then x.2.1 - x.1 + 1 else 0) + lenQ Q l
theorem lenQ_til (Q : Nat → Bool) {say : Nat → Nat} {hi : Nat} : ∀ {l : List (Nat × Nat × Nat)} {low : Nat}, Til say hi low l → lenQ Q l = cntQ (fun p => Q (say p)) low (hi - low)
  | [], low, h => by
    obtain rfl : low = hi := h
    rw [Nat.sub_self]
    rfl
  | x :: l, low, h => by
    obtain ⟨h1, h2, h3, h4, h5⟩ := h
    have hle := h5.le
    rw [show hi - low = (x.2.1 + 1 - low) + (hi - (x.2.1 + 1)) by omega, cntQ_add, show low + (x.2.1 + 1 - low) = x.2.1 + 1 by omega, ← lenQ_til Q h5,
      cntQ_const (fun p => Q (say p)) (Q x.2.2) (x.2.1 + 1 - low) low (fun p ha hb => by show Q (say p) = Q x.2.2; rw [h3 p ha (by omega)])]
    simp only [lenQ]
    rw [h1, show x.2.1 - low + 1 = x.2.1 + 1 - low by omega]

/-- The numbers of a map's keys of which something holds. -/
def sumK (Q : Nat → Bool) : List (Nat × Nat) → Nat
  | [] => 0
  | p :: l => (if Q p.1 = true then p.2 else 0) + sumK Q l
theorem sumK_append (Q : Nat → Bool) (k : List (Nat × Nat)) : ∀ l : List (Nat × Nat), sumK Q (l ++ k) = sumK Q l + sumK Q k
  | [] => by simp [sumK]
  | p :: l => by simp only [List.cons_append, sumK, sumK_append Q k l]; omega
theorem sumK_perm (Q : Nat → Bool) {l k : List (Nat × Nat)} (h : l.Perm k) : sumK Q l = sumK Q k := by
  induction h with
  | nil => rfl
  | cons x _ ih => simp only [sumK, ih]
  | swap x y l => simp only [sumK]; omega
  | trans _ _ ih1 ih2 => exact ih1.trans ih2
theorem put_ne {a v : Nat} {q : Nat × Nat} {l : List (Nat × Nat)} (h : ¬ a = q.1) : put a v (q :: l) = q :: put a v l ∧ at? a (q :: l) = at? a l := by
  unfold put at?
  rw [place, if_neg h]
  cases place a l with
  | none => exact ⟨rfl, rfl⟩
  | some j => exact ⟨by simp, by simp⟩
theorem put_eq {a v : Nat} {q : Nat × Nat} {l : List (Nat × Nat)} (h : a = q.1) : put a v (q :: l) = (a, v) :: l ∧ at? a (q :: l) = some q.2 := by
  unfold put at?
  rw [place, if_pos h]
  exact ⟨rfl, rfl⟩
theorem sumK_addK (Q : Nat → Bool) (n m : Nat) : ∀ l : List (Nat × Nat), sumK Q (addK n m l) = sumK Q l + if Q n = true then m else 0
  | [] => by simp [addK, put, place, at?, sumK]
  | q :: l => by
    have ih := sumK_addK Q n m l
    unfold addK at *
    by_cases h : n = q.1
    · rw [(put_eq h).1, (put_eq (v := 0) h).2, Option.getD_some]
      simp only [sumK]
      rw [h]
      split <;> omega
    · rw [(put_ne h).1, (put_ne (v := 0) h).2]
      simp only [sumK]
      rw [ih]
      omega
theorem sumK_cnt (Q : Nat → Bool) : ∀ (out : List (Nat × Nat × Nat)) (l : List (Nat × Nat)), sumK Q (out.foldl (fun l x => addK x.2.2 (x.2.1 - x.1 + 1) l) l) = sumK Q l + lenQ Q out
  | [], l => by simp [lenQ]
  | x :: out, l => by
    rw [List.foldl_cons, sumK_cnt Q out, sumK_addK]
    simp only [lenQ]
    omega
theorem sumK_cntL (Q : Nat → Bool) (out : List (Nat × Nat × Nat)) : sumK Q (cntL out) = lenQ Q out := by
  have := sumK_cnt Q out []
  unfold cntL
  rw [this]
  simp [sumK]
theorem sumK_take (Q : Nat → Bool) (l : List (Nat × Nat)) (i : Nat) (h : i < l.length) : sumK Q (l.take (i + 1)) = sumK Q (l.take i) + (if Q (l.getD i (0, 0)).1 = true then (l.getD i (0, 0)).2 else 0) := by
  have e : l.take (i + 1) = l.take i ++ [l.getD i (0, 0)] := by
    simp only [List.getD_eq_getElem?_getD, List.getElem?_eq_getElem h, Option.getD_some]
    exact List.take_succ_eq_append_getElem h
  rw [e, sumK_append]
  simp [sumK]
theorem sumK_le (Q : Nat → Bool) (l : List (Nat × Nat)) (i : Nat) : sumK Q (l.take i) ≤ sumK Q l := by
  have := sumK_append Q (l.drop i) (l.take i)
  rw [List.take_append_drop] at this
  omega
/-- Rows that came of pairs, as pairs. -/
def unP (r : S30) : Nat × Nat := (r.f0.toNat * 65536 + r.f1.toNat, r.f2.toNat)
theorem unP_rowP (p : Nat × Nat) : unP (rowP p) = p := by
  obtain ⟨n, m⟩ := p
  show ((hiZ n).toNat * 65536 + (loZ n).toNat, ((m : Nat) : Int).toNat) = (n, m)
  unfold hiZ loZ
  rw [Int.toNat_natCast, Int.toNat_natCast, Int.toNat_natCast, Nat.div_add_mod']
theorem rows_un {l0 : List S30} {L : List (Nat × Nat)} (h : l0.Perm (L.map rowP)) : ∃ q : List (Nat × Nat), q.Perm L ∧ l0 = q.map rowP := by
  refine ⟨l0.map unP, ?_, ?_⟩
  · have := h.map unP
    rw [List.map_map] at this
    have e : L.map (unP ∘ rowP) = L := by
      rw [List.map_congr_left (f := unP ∘ rowP) (g := id) (fun x _ => unP_rowP x), List.map_id]
    rwa [e] at this
  · rw [List.map_map]
    have : ∀ x ∈ l0, (rowP ∘ unP) x = id x := fun x hx => by
      obtain ⟨p, _, rfl⟩ := List.mem_map.1 (h.mem_iff.1 hx)
      show rowP (unP (rowP p)) = rowP p
      rw [unP_rowP]
    rw [List.map_congr_left this, List.map_id]
/-- The first of a pair is the second. -/
def sameQ (n : Nat) : Bool := n / 65536 == n % 65536

theorem sums_all {sa sb : Nat → Nat} {rs : List (Nat × Nat × Nat)} (h : Til (pairSay sa sb) 1114112 0 rs) : sumK (fun _ => true) (cntL rs) = 1114112 := by
  rw [sumK_cntL, lenQ_til _ h, cntQ_const _ true _ _ (fun _ _ _ => rfl)]
  rfl
theorem sums_same {sa sb : Nat → Nat} (b1 : ∀ p, p < 1114112 → sa p ≤ 65535) (b2 : ∀ p, p < 1114112 → sb p ≤ 65535) {rs : List (Nat × Nat × Nat)} (h : Til (pairSay sa sb) 1114112 0 rs) : sumK sameQ (cntL rs) = cntQ (fun p => decide (sa p = sb p)) 0 1114112 := by
  rw [sumK_cntL, lenQ_til _ h]
  refine cntQ_congr _ _ (fun p _ hp => ?_)
  have k1 := b1 p (by omega)
  have k2 := b2 p (by omega)
  unfold sameQ pairSay
  rw [show (sa p * 65536 + sb p) / 65536 = sa p by omega, show (sa p * 65536 + sb p) % 65536 = sb p by omega]
  by_cases e : sa p = sb p
  · simp [e]
  · simp [e]
/-- The unlike ones, one behind the other. -/
def manyD : List (Nat × Nat × Nat) → Nat
  | [] => 0
  | x :: l => (x.2.1 - x.1 + 1) + manyD l
theorem manyD_append (k : List (Nat × Nat × Nat)) : ∀ l : List (Nat × Nat × Nat), manyD (l ++ k) = manyD l + manyD k
  | [] => by simp [manyD]
  | p :: l => by simp only [List.cons_append, manyD, manyD_append k l]; omega
theorem manyD_of : ∀ rs : List (Nat × Nat × Nat), manyD (ofD rs) = lenQ (fun n => decide (n = 1)) rs
  | [] => rfl
  | x :: l => by
    have ih := manyD_of l
    unfold ofD at *
    rw [List.filter_cons]
    simp only [lenQ, ← ih]
    by_cases h : x.2.2 = 1
    · simp [h, manyD]
    · simp [h]
theorem sums_many {sa sb : Nat → Nat} {rs : List (Nat × Nat × Nat)} (h : Til (difSay sa sb) 1114112 0 rs) : manyD (ofD rs) + cntQ (fun p => decide (sa p = sb p)) 0 1114112 = 1114112 := by
  rw [manyD_of, lenQ_til _ h]
  have e : cntQ (fun p => decide (difSay sa sb p = 1)) 0 (1114112 - 0) = cntQ (fun p => !decide (sa p = sb p)) 0 1114112 := cntQ_congr _ _ (fun p _ _ => by
    unfold difSay
    by_cases e : sa p = sb p <;> simp [e])
  rw [e, Nat.add_comm]
  exact cntQ_not _ _ _
theorem manyD_take (l : List (Nat × Nat × Nat)) (i : Nat) (h : i < l.length) : manyD (l.take (i + 1)) = manyD (l.take i) + ((l.getD i (0, 0, 0)).2.1 - (l.getD i (0, 0, 0)).1 + 1) := by
  have e : l.take (i + 1) = l.take i ++ [l.getD i (0, 0, 0)] := by
    simp only [List.getD_eq_getElem?_getD, List.getElem?_eq_getElem h, Option.getD_some]
    exact List.take_succ_eq_append_getElem h
  rw [e, manyD_append]
  rfl
theorem manyD_le (l : List (Nat × Nat × Nat)) (i : Nat) : manyD (l.take i) ≤ manyD l := by
  have := manyD_append (l.drop i) (l.take i)
  rw [List.take_append_drop] at this
  omega
/-- The unlike stretches as spans. -/
def spD (l : List (Nat × Nat × Nat)) : List (Int × Int) := l.map fun x => ((x.1 : Int), (x.2.1 : Int))
theorem spD_at (l : List (Nat × Nat × Nat)) (i : Nat) (h : i < l.length) : (spD l).getD i (0, 0) = (((l.getD i (0, 0, 0)).1 : Int), ((l.getD i (0, 0, 0)).2.1 : Int)) := by
  unfold spD
  simp only [List.getD_eq_getElem?_getD, List.getElem?_map, List.getElem?_eq_getElem h, Option.map_some, Option.getD_some]
theorem spD_set {say : Nat → Nat} (h1 : ∀ p, say p ≤ 1) : ∀ {l : List (Nat × Nat × Nat)} {low : Nat}, Til say 1114112 low l → ((∀ z ∈ l.head?, z.2.2 ≠ 1) → setFrom ((low : Int) + 1) (spD (ofD l)) = true) ∧ setFrom (low : Int) (spD (ofD l)) = true
  | [], low, h => ⟨fun _ => rfl, rfl⟩
  | x :: l, low, h => by
    obtain ⟨k1, k2, k3, k4, k5⟩ := h
    obtain ⟨ih1, ih2⟩ := spD_set h1 k5
    have hle := k5.le
    by_cases hx : x.2.2 = 1
    · have e : ofD (x :: l) = x :: ofD l := by unfold ofD; rw [List.filter_cons]; simp [hx]
      rw [e]
      refine ⟨fun hz => absurd hx (hz x rfl), ?_⟩
      show ((mayI ((x.1 : Int), (x.2.1 : Int)) && decide ((low : Int) ≤ (x.1 : Int))) && setFrom ((x.2.1 : Int) + 2) (spD (ofD l))) = true
      have i1 := ih1 (fun z hz => by rw [← hx]; exact k4 z hz)
      rw [show ((x.2.1 + 1 : Nat) : Int) + 1 = (x.2.1 : Int) + 2 by omega] at i1
      rw [i1]
      unfold mayI
      simp only [Bool.and_true, Bool.and_eq_true, decide_eq_true_eq]
      omega
    · have e : ofD (x :: l) = ofD l := by unfold ofD; rw [List.filter_cons]; simp [hx]
      rw [e]
      have hlow : ∀ (xs : List (Int × Int)) (a b : Int), a ≤ b → setFrom b xs = true → setFrom a xs = true := fun xs a b hab hs => by
        cases xs with
        | nil => rfl
        | cons y ys =>
          simp only [setFrom, Bool.and_eq_true, decide_eq_true_eq] at hs ⊢
          exact ⟨⟨hs.1.1, by omega⟩, hs.2⟩
      exact ⟨fun _ => hlow _ _ _ (by omega) ih2, hlow _ _ _ (by omega) ih2⟩
theorem ofD_mem {sa sb : Nat → Nat} {rs : List (Nat × Nat × Nat)} (h : Til (difSay sa sb) 1114112 0 rs) {x : Nat × Nat × Nat} (hx : x ∈ ofD rs) : x.1 ≤ x.2.1 ∧ x.2.1 < 1114112 ∧ ∀ p, x.1 ≤ p → p ≤ x.2.1 → ¬ sa p = sb p := by
  unfold ofD at hx
  rw [List.mem_filter, decide_eq_true_eq] at hx
  obtain ⟨_, k2, k3, k4⟩ := h.mem x hx.1
  refine ⟨k2, k3, fun p ha hb e => ?_⟩
  have := k4 p ha hb
  rw [hx.2] at this
  unfold difSay at this
  rw [if_pos e] at this
  cases this
theorem ofD_has {sa sb : Nat → Nat} {rs : List (Nat × Nat × Nat)} (h : Til (difSay sa sb) 1114112 0 rs) {p : Nat} (hp : p < 1114112) (hne : ¬ sa p = sb p) : ∃ x ∈ ofD rs, x.1 ≤ p ∧ p ≤ x.2.1 := by
  have aux : ∀ {l : List (Nat × Nat × Nat)} {low : Nat}, Til (difSay sa sb) 1114112 low l → low ≤ p → ∃ x ∈ l, x.1 ≤ p ∧ p ≤ x.2.1 := by
    intro l
    induction l with
    | nil => intro low h hl; have : low = 1114112 := h; omega
    | cons x l ih =>
      intro low h hl
      obtain ⟨k1, k2, k3, k4, k5⟩ := h
      by_cases hx : p ≤ x.2.1
      · exact ⟨x, by simp, by omega, hx⟩
      · obtain ⟨y, hy, h1, h2⟩ := ih k5 (by omega)
        exact ⟨y, by simp [hy], h1, h2⟩
  obtain ⟨x, hx, h1, h2⟩ := aux h (Nat.zero_le _)
  refine ⟨x, ?_, h1, h2⟩
  unfold ofD
  rw [List.mem_filter, decide_eq_true_eq]
  refine ⟨hx, ?_⟩
  have := (h.mem x hx).2.2.2 p h1 h2
  rw [← this]
  unfold difSay
  rw [if_neg hne]
theorem dif_where {sa sb : Nat → Nat} {rs : List (Nat × Nat × Nat)} (h : Til (difSay sa sb) 1114112 0 rs) (hs : isSet (spD (ofD rs)) = true) (p : Nat) (hp : p < 1114112) : hasS (p : Int) (spD (ofD rs)) = true ↔ ¬ sa p = sb p := by
  rw [hasS_iff hs]
  have hl : (spD (ofD rs)).length = (ofD rs).length := List.length_map ..
  constructor
  · rintro ⟨i, hi, h1, h2⟩
    rw [hl] at hi
    rw [spD_at _ _ hi] at h1 h2
    simp only at h1 h2
    have hm : (ofD rs).getD i (0, 0, 0) ∈ ofD rs := by
      rw [List.getD_eq_getElem?_getD, List.getElem?_eq_getElem hi]
      exact List.getElem_mem hi
    exact (ofD_mem h hm).2.2 p (by omega) (by omega)
  · intro hne
    obtain ⟨x, hx, h1, h2⟩ := ofD_has h hp hne
    obtain ⟨i, hi, rfl⟩ := List.getElem_of_mem hx
    refine ⟨i, by rw [hl]; exact hi, ?_⟩
    rw [spD_at _ _ hi, List.getD_eq_getElem?_getD, List.getElem?_eq_getElem hi, Option.getD_some]
    exact ⟨by simp only; omega, by simp only; omega⟩
theorem where_ba {sa sb : Nat → Nat} {rs : List (Nat × Nat × Nat)} (h : Til (difSay sa sb) 1114112 0 rs) (hs : isSet (spD (ofD rs)) = true) (p : Nat) (hp : p < 1114112) : whereSay (spD (ofD rs)) sb sa p = sb p := by
  unfold whereSay
  by_cases e : sa p = sb p
  · split
    · rfl
    · exact e
  · rw [if_pos ((dif_where h hs p hp).2 e)]
theorem where_ab {sa sb : Nat → Nat} {rs : List (Nat × Nat × Nat)} (h : Til (difSay sa sb) 1114112 0 rs) (hs : isSet (spD (ofD rs)) = true) (p : Nat) (hp : p < 1114112) : whereSay (spD (ofD rs)) sa sb p = sa p := by
  unfold whereSay
  by_cases e : sa p = sb p
  · split
    · rfl
    · exact e.symm
  · rw [if_pos ((dif_where h hs p hp).2 e)]
theorem many_zero {sa sb : Nat → Nat} {rs : List (Nat × Nat × Nat)} (h : Til (difSay sa sb) 1114112 0 rs) : sameB sa sb = decide (manyD (ofD rs) = 0) := by
  rw [Bool.eq_iff_iff, sameB_iff, decide_eq_true_eq]
  constructor
  · intro he
    cases hd : ofD rs with
    | nil => rfl
    | cons x l =>
      obtain ⟨h1, h2, h3⟩ := ofD_mem h (x := x) (by rw [hd]; simp)
      exact absurd (he x.1 (by omega)) (h3 x.1 (Nat.le_refl _) h1)
  · intro h0 p hp
    cases hd : ofD rs with
    | nil =>
      by_cases e : sa p = sb p
      · exact e
      · obtain ⟨x, hx, _⟩ := ofD_has h hp e
        rw [hd] at hx
        cases hx
    | cons x l =>
      rw [hd] at h0
      simp only [manyD] at h0
      omega

end Go.Proofs.Ytajmbafljncjcaa.PStageOver
