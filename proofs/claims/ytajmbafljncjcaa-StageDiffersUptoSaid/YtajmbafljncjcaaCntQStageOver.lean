/- How many code points: the counts of what is said. The document's Differ, in plain: what it comes to. -/
import Derived.Test.YtajmbafljncjcaaPrsCStageOver
import Derived.Test.YtajmbafljncjcaaRefBStageOver
/-! ### CntQ: How many code points: the counts of what is said. -/
namespace Go.Proofs.Ytajmbafljncjcaa.PStageOver
open Go.Proofs.Ytajmbafljncjcaa.Stage Go.Proofs.Ytajmbafljncjcaa.Mp
set_option linter.unusedVariables false
set_option linter.unusedSimpArgs false

def cntQ (P : Nat → Bool) : Nat → Nat → Nat
  | _, 0 => 0
  | low, n + 1 => (if P low = true then 1 else 0) + cntQ P (low + 1) n
theorem cntQ_add (P : Nat → Bool) (b : Nat) : ∀ (a low : Nat), cntQ P low (a + b) = cntQ P low a + cntQ P (low + a) b
  | 0, low => by simp [cntQ]
  | a + 1, low => by
    rw [show a + 1 + b = (a + b) + 1 by omega]
    simp only [cntQ]
    rw [cntQ_add P b a (low + 1), show low + 1 + a = low + (a + 1) by omega]
    omega
theorem cntQ_const (P : Nat → Bool) (v : Bool) : ∀ (n low : Nat), (∀ p, low ≤ p → p < low + n → P p = v) → cntQ P low n = if v = true then n else 0
  | 0, low, h => by cases v <;> rfl
  | n + 1, low, h => by
    have ih := cntQ_const P v n (low + 1) (fun p h1 h2 => h p (by omega) (by omega))
    simp only [cntQ]
    rw [ih, h low (Nat.le_refl _) (by omega)]
    cases v
    · rfl
    · simp only [if_true]; omega
theorem cntQ_not (P : Nat → Bool) : ∀ (n low : Nat), cntQ P low n + cntQ (fun p => !P p) low n = n
  | 0, low => rfl
  | n + 1, low => by
    have ih := cntQ_not P n (low + 1)
    have hc : P low = true ∨ P low = false := by cases P low <;> simp
    simp only [cntQ]
    rcases hc with hc | hc
    · rw [if_pos hc, if_neg (by rw [hc]; decide)]; omega
    · rw [if_neg (by rw [hc]; decide), if_pos (by rw [hc]; rfl)]; omega
theorem cntQ_congr {P P' : Nat → Bool} : ∀ (n low : Nat), (∀ p, low ≤ p → p < low + n → P p = P' p) → cntQ P low n = cntQ P' low n
  | 0, low, h => rfl
  | n + 1, low, h => by
    simp only [cntQ]
    rw [cntQ_congr n (low + 1) (fun p h1 h2 => h p (by omega) (by omega)), h low (Nat.le_refl _) (by omega)]
/-- The code points of stretches of which something holds. -/
def lenQ (Q : Nat → Bool) : List (Nat × Nat × Nat) → Nat
  | [] => 0
  | x :: l => (if Q x.2.2 = true then x.2.1 - x.1 + 1 else 0) + lenQ Q l
theorem lenQ_til (Q : Nat → Bool) {say : Nat → Nat} {hi : Nat} : ∀ {l : List (Nat × Nat × Nat)} {low : Nat}, Til say hi low l → lenQ Q l = cntQ (fun p => Q (say p)) low (hi - low)
  | [], low, h => by
    obtain rfl : low = hi := h
    rw [Nat.sub_self]
    rfl
  | x :: l, low, h => by
    obtain ⟨h1, h2, h3, h4, h5⟩ := h
    have hle := h5.le
    rw [show hi - low = (x.2.1 + 1 - low) + (hi - (x.2.1 + 1)) by omega, cntQ_add, show low + (x.2.1 + 1 - low) = x.2.1 + 1 by omega, ← lenQ_til Q h5,
      cntQ_const (fun p => Q (say p)) (Q x.2.2) (x.2.1 + 1 - low) low (fun p ha hb => by show Q (say p) = Q x.2.2; rw [h3 p ha (by omega)])]
    simp only [lenQ]
    rw [h1, show x.2.1 - low + 1 = x.2.1 + 1 - low by omega]

/-- The numbers of a map's keys of which something holds. -/
def sumK (Q : Nat → Bool) : List (Nat × Nat) → Nat
  | [] => 0
  | p :: l => (if Q p.1 = true then p.2 else 0) + sumK Q l
theorem sumK_append (Q : Nat → Bool) (k : List (Nat × Nat)) : ∀ l : List (Nat × Nat), sumK Q (l ++ k) = sumK Q l + sumK Q k
  | [] => by simp [sumK]
  | p :: l => by simp only [List.cons_append, sumK, sumK_append Q k l]; omega
theorem sumK_perm (Q : Nat → Bool) {l k : List (Nat × Nat)} (h : l.Perm k) : sumK Q l = sumK Q k := by
  induction h with
  | nil => rfl
  | cons x _ ih => simp only [sumK, ih]
  | swap x y l => simp only [sumK]; omega
  | trans _ _ ih1 ih2 => exact ih1.trans ih2
theorem put_ne {a v : Nat} {q : Nat × Nat} {l : List (Nat × Nat)} (h : ¬ a = q.1) : put a v (q :: l) = q :: put a v l ∧ at? a (q :: l) = at? a l := by
  unfold put at?
  rw [place, if_neg h]
  cases place a l with
  | none => exact ⟨rfl, rfl⟩
  | some j => exact ⟨by simp, by simp⟩
theorem put_eq {a v : Nat} {q : Nat × Nat} {l : List (Nat × Nat)} (h : a = q.1) : put a v (q :: l) = (a, v) :: l ∧ at? a (q :: l) = some q.2 := by
  unfold put at?
  rw [place, if_pos h]
  exact ⟨rfl, rfl⟩
theorem sumK_addK (Q : Nat → Bool) (n m : Nat) : ∀ l : List (Nat × Nat), sumK Q (addK n m l) = sumK Q l + if Q n = true then m else 0
  | [] => by simp [addK, put, place, at?, sumK]
  | q :: l => by
    have ih := sumK_addK Q n m l
    unfold addK at *
    by_cases h : n = q.1
    · rw [(put_eq h).1, (put_eq (v := 0) h).2, Option.getD_some]
      simp only [sumK]
      rw [h]
      split <;> omega
    · rw [(put_ne h).1, (put_ne (v := 0) h).2]
      simp only [sumK]
      rw [ih]
      omega
theorem sumK_cnt (Q : Nat → Bool) : ∀ (out : List (Nat × Nat × Nat)) (l : List (Nat × Nat)), sumK Q (out.foldl (fun l x => addK x.2.2 (x.2.1 - x.1 + 1) l) l) = sumK Q l + lenQ Q out
  | [], l => by simp [lenQ]
  | x :: out, l => by
    rw [List.foldl_cons, sumK_cnt Q out, sumK_addK]
    simp only [lenQ]
    omega
theorem sumK_cntL (Q : Nat → Bool) (out : List (Nat × Nat × Nat)) : sumK Q (cntL out) = lenQ Q out := by
  have := sumK_cnt Q out []
  unfold cntL
  rw [this]
  simp [sumK]
theorem sumK_take (Q : Nat → Bool) (l : List (Nat × Nat)) (i : Nat) (h : i < l.length) : sumK Q (l.take (i + 1)) = sumK Q (l.take i) + (if Q (l.getD i (0, 0)).1 = true then (l.getD i (0, 0)).2 else 0) := by
  have e : l.take (i + 1) = l.take i ++ [l.getD i (0, 0)] := by
    simp only [List.getD_eq_getElem?_getD, List.getElem?_eq_getElem h, Option.getD_some]
    exact List.take_succ_eq_append_getElem h
  rw [e, sumK_append]
  simp [sumK]
theorem sumK_le (Q : Nat → Bool) (l : List (Nat × Nat)) (i : Nat) : sumK Q (l.take i) ≤ sumK Q l := by
  have := sumK_append Q (l.drop i) (l.take i)
  rw [List.take_append_drop] at this
  omega
/-- Rows that came of pairs, as pairs. -/
def unP (r : S30) : Nat × Nat := (r.f0.toNat * 65536 + r.f1.toNat, r.f2.toNat)
theorem unP_rowP (p : Nat × Nat) : unP (rowP p) = p := by
  obtain ⟨n, m⟩ := p
  show ((hiZ n).toNat * 65536 + (loZ n).toNat, ((m : Nat) : Int).toNat) = (n, m)
  unfold hiZ loZ
  rw [Int.toNat_natCast, Int.toNat_natCast, Int.toNat_natCast, Nat.div_add_mod']
theorem rows_un {l0 : List S30} {L : List (Nat × Nat)} (h : l0.Perm (L.map rowP)) : ∃ q : List (Nat × Nat), q.Perm L ∧ l0 = q.map rowP := by
  refine ⟨l0.map unP, ?_, ?_⟩
  · have := h.map unP
    rw [List.map_map] at this
    have e : L.map (unP ∘ rowP) = L := by
      rw [List.map_congr_left (f := unP ∘ rowP) (g := id) (fun x _ => unP_rowP x), List.map_id]
    rwa [e] at this
  · rw [List.map_map]
    have : ∀ x ∈ l0, (rowP ∘ unP) x = id x := fun x hx => by
      obtain ⟨p, _, rfl⟩ := List.mem_map.1 (h.mem_iff.1 hx)
      show rowP (unP (rowP p)) = rowP p
      rw [unP_rowP]
    rw [List.map_congr_left this, List.map_id]
/-- The first of a pair is the second. -/
def sameQ (n : Nat) : Bool := n / 65536 == n % 65536

theorem sums_all {sa sb : Nat → Nat} {rs : List (Nat × Nat × Nat)} (h : Til (pairSay sa sb) 1114112 0 rs) : sumK (fun _ => true) (cntL rs) = 1114112 := by
  rw [sumK_cntL, lenQ_til _ h, cntQ_const _ true _ _ (fun _ _ _ => rfl)]
  rfl
theorem sums_same {sa sb : Nat → Nat} (b1 : ∀ p, p < 1114112 → sa p ≤ 65535) (b2 : ∀ p, p < 1114112 → sb p ≤ 65535) {rs : List (Nat × Nat × Nat)} (h : Til (pairSay sa sb) 1114112 0 rs) : sumK sameQ (cntL rs) = cntQ (fun p => decide (sa p = sb p)) 0 1114112 := by
  rw [sumK_cntL, lenQ_til _ h]
  refine cntQ_congr _ _ (fun p _ hp => ?_)
  have k1 := b1 p (by omega)
  have k2 := b2 p (by omega)
  unfold sameQ pairSay
  rw [show (sa p * 65536 + sb p) / 65536 = sa p by omega, show (sa p * 65536 + sb p) % 65536 = sb p by omega]
  by_cases e : sa p = sb p
  · simp [e]
  · simp [e]

end Go.Proofs.Ytajmbafljncjcaa.PStageOver

/-! ### DifP: The document's Differ, in plain: what it comes to. -/
namespace Go.Proofs.Ytajmbafljncjcaa.PStageOver
open Go.Proofs.Ytajmbafljncjcaa.Stage
set_option linter.unusedVariables false
set_option linter.unusedSimpArgs false

/-- A stretch more: the last one is made longer, or there is a new one. -/
def pushD (f t : Nat) (out : List (Nat × Nat × Nat)) : List (Nat × Nat × Nat) := match out.length with
  | 0 => out ++ [(f, t, 1)]
  | m + 1 => if (out.getD m z3).2.1 + 1 = f then out.set m ((out.getD m z3).1, t, (out.getD m z3).2.2) else out ++ [(f, t, 1)]
theorem pushD_nil {f t : Nat} {out : List (Nat × Nat × Nat)} (h : out.length = 0) : pushD f t out = out ++ [(f, t, 1)] := by unfold pushD; rw [h]
theorem pushD_set {f t m : Nat} {out : List (Nat × Nat × Nat)} (h : out.length = m + 1) (hj : (out.getD m z3).2.1 + 1 = f) : pushD f t out = out.set m ((out.getD m z3).1, t, (out.getD m z3).2.2) := by unfold pushD; rw [h]; simp only; rw [if_pos hj]
theorem pushD_add {f t m : Nat} {out : List (Nat × Nat × Nat)} (h : out.length = m + 1) (hj : ¬ (out.getD m z3).2.1 + 1 = f) : pushD f t out = out ++ [(f, t, 1)] := by unfold pushD; rw [h]; simp only; rw [if_neg hj]
theorem pushD_snoc (a b n f t : Nat) (l : List (Nat × Nat × Nat)) : pushD f t (l ++ [(a, b, n)]) = if b + 1 = f then l ++ [(a, t, n)] else l ++ [(a, b, n)] ++ [(f, t, 1)] := by
  have hl : (l ++ [(a, b, n)]).length = l.length + 1 := by simp
  have hg : (l ++ [(a, b, n)]).getD l.length z3 = (a, b, n) := by simp [List.getD_eq_getElem?_getD]
  by_cases h : b + 1 = f
  · rw [if_pos h, pushD_set hl (by rw [hg]; exact h), hg]
    simp [List.set_append]
  · rw [if_neg h, pushD_add hl (by rw [hg]; exact h)]
theorem pushD_len (f t : Nat) (out : List (Nat × Nat × Nat)) : (pushD f t out).length ≤ out.length + 1 := by
  rcases Nat.eq_zero_or_pos out.length with h | h
  · rw [pushD_nil h]; simp
  · obtain ⟨m, hm⟩ : ∃ m, out.length = m + 1 := ⟨out.length - 1, by omega⟩
    by_cases hj : (out.getD m z3).2.1 + 1 = f
    · rw [pushD_set hm hj, List.length_set]; omega
    · rw [pushD_add hm hj]; simp
theorem snoc_or (l : List (Nat × Nat × Nat)) : l = [] ∨ ∃ l' a b n, l = l' ++ [(a, b, n)] := by
  rcases List.eq_nil_or_concat l with h | ⟨l', ⟨a, b, n⟩, h⟩
  · exact .inl h
  · exact .inr ⟨l', a, b, n, by rw [h]; simp⟩
theorem push_push (f t : Nat) (out : List (Nat × Nat × Nat)) : pushD (t + 1) (t + 1) (pushD f t out) = pushD f (t + 1) out := by
  rcases snoc_or out with rfl | ⟨l, a, b, n, rfl⟩
  · rw [pushD_nil (out := []) (f := f) (t := t) rfl, pushD_nil (out := []) rfl, List.nil_append, List.nil_append]
    exact (pushD_snoc f t 1 (t + 1) (t + 1) []).trans (if_pos rfl)
  · rw [pushD_snoc, pushD_snoc]
    by_cases h : b + 1 = f
    · rw [if_pos h, if_pos h, pushD_snoc, if_pos rfl]
    · rw [if_neg h, if_neg h, pushD_snoc, if_pos rfl]
def difI (x : Nat × Nat × Nat) : List (Nat × Nat × Nat) → List (Nat × Nat × Nat) → List (Nat × Nat × Nat)
  | [], out => out
  | y :: l, out => difI x l (if max x.1 y.1 ≤ min x.2.1 y.2.1 ∧ ¬ x.2.2 = y.2.2 then pushD (max x.1 y.1) (min x.2.1 y.2.1) out else out)
def difO (b : List (Nat × Nat × Nat)) : List (Nat × Nat × Nat) → List (Nat × Nat × Nat) → List (Nat × Nat × Nat)
  | [], out => out
  | x :: l, out => difO b l (difI x b out)
theorem difI_append (x : Nat × Nat × Nat) (k : List (Nat × Nat × Nat)) : ∀ l out : List (Nat × Nat × Nat), difI x (l ++ k) out = difI x k (difI x l out)
  | [], out => rfl
  | y :: l, out => difI_append x k l _
theorem difO_append (b k : List (Nat × Nat × Nat)) : ∀ l out : List (Nat × Nat × Nat), difO b (l ++ k) out = difO b k (difO b l out)
  | [], out => rfl
  | y :: l, out => difO_append b k l _
theorem difI_len (x : Nat × Nat × Nat) : ∀ l out : List (Nat × Nat × Nat), (difI x l out).length ≤ out.length + l.length
  | [], out => Nat.le_refl _
  | y :: l, out => by
    simp only [difI, List.length_cons]
    have h1 := difI_len x l (if max x.1 y.1 ≤ min x.2.1 y.2.1 ∧ ¬ x.2.2 = y.2.2 then pushD (max x.1 y.1) (min x.2.1 y.2.1) out else out)
    have h2 : (if max x.1 y.1 ≤ min x.2.1 y.2.1 ∧ ¬ x.2.2 = y.2.2 then pushD (max x.1 y.1) (min x.2.1 y.2.1) out else out).length ≤ out.length + 1 := by
      split
      · exact pushD_len _ _ _
      · omega
    omega
theorem difO_len (b : List (Nat × Nat × Nat)) (hb : b.length ≤ 1114112) : ∀ l out : List (Nat × Nat × Nat), (difO b l out).length ≤ out.length + l.length * 1114112
  | [], out => by simp [difO]
  | x :: l, out => by
    simp only [difO, List.length_cons]
    have h1 := difO_len b hb l (difI x b out)
    have h2 := difI_len x b out
    omega
def BdD (l : List (Nat × Nat × Nat)) : Prop := ∀ z ∈ l, z.2.1 ≤ 1114111
theorem pushD_bd {f t : Nat} {out : List (Nat × Nat × Nat)} (ht : t ≤ 1114111) (h : BdD out) : BdD (pushD f t out) := by
  have hap : BdD (out ++ [(f, t, 1)]) := fun z hz => by
    rcases List.mem_append.1 hz with hz | hz
    · exact h z hz
    · rw [List.mem_singleton] at hz
      rw [hz]
      exact ht
  rcases Nat.eq_zero_or_pos out.length with h0 | h0
  · rw [pushD_nil h0]; exact hap
  · obtain ⟨m, hm⟩ : ∃ m, out.length = m + 1 := ⟨out.length - 1, by omega⟩
    by_cases hj : (out.getD m z3).2.1 + 1 = f
    · rw [pushD_set hm hj]
      intro z hz
      rcases List.mem_or_eq_of_mem_set hz with hz | hz
      · exact h z hz
      · rw [hz]
        exact ht
    · rw [pushD_add hm hj]; exact hap
theorem difI_bd {x : Nat × Nat × Nat} (hx : x.2.1 ≤ 1114111) : ∀ l {out : List (Nat × Nat × Nat)}, BdD out → BdD (difI x l out)
  | [], out, h => h
  | y :: l, out, h => by
    simp only [difI]
    refine difI_bd hx l ?_
    split
    · exact pushD_bd (by omega) h
    · exact h
theorem difO_bd {b : List (Nat × Nat × Nat)} : ∀ l {out : List (Nat × Nat × Nat)}, BdD l → BdD out → BdD (difO b l out)
  | [], out, _, h => h
  | x :: l, out, hl, h => difO_bd l (fun z hz => hl z (List.mem_cons_of_mem _ hz)) (difI_bd (hl x List.mem_cons_self) b h)
theorem BdD.get {l : List (Nat × Nat × Nat)} (h : BdD l) (m : Nat) (hm : m < l.length) : (l.getD m z3).2.1 ≤ 1114111 := h _ (by rw [List.getD_eq_getElem?_getD, List.getElem?_eq_getElem hm]; exact List.getElem_mem hm)
/-- The stretches of a set up to a code point, one by one. -/
def oneByOne (u : Nat → Bool) : Nat → List (Nat × Nat × Nat)
  | 0 => []
  | p + 1 => if u p then pushD p p (oneByOne u p) else oneByOne u p
theorem obo_no (u : Nat → Bool) (f : Nat) : ∀ d, (∀ p, f ≤ p → p < f + d → u p = false) → oneByOne u (f + d) = oneByOne u f
  | 0, _ => rfl
  | d + 1, h => by
    show (if u (f + d) then _ else oneByOne u (f + d)) = _
    rw [h (f + d) (by omega) (by omega), obo_no u f d (fun p h1 h2 => h p h1 (by omega))]
    rfl
theorem obo_yes (u : Nat → Bool) (f : Nat) : ∀ d, (∀ p, f ≤ p → p ≤ f + d → u p = true) → oneByOne u (f + d + 1) = pushD f (f + d) (oneByOne u f)
  | 0, h => by
    show (if u f then _ else _) = _
    rw [h f (by omega) (by omega)]
    rfl
  | d + 1, h => by
    show (if u (f + d + 1) then pushD (f + d + 1) (f + d + 1) (oneByOne u (f + d + 1)) else _) = _
    rw [h (f + d + 1) (by omega) (by omega), obo_yes u f d (fun p h1 h2 => h p h1 (by omega)), if_pos rfl, push_push]
    rfl
theorem obo_span (u : Nat → Bool) (f t : Nat) (h : f ≤ t) (v : Bool) (hv : ∀ p, f ≤ p → p ≤ t → u p = v) : oneByOne u (t + 1) = if v then pushD f t (oneByOne u f) else oneByOne u f := by
  obtain ⟨d, rfl⟩ : ∃ d, t = f + d := ⟨t - f, by omega⟩
  cases v with
  | true => exact obo_yes u f d hv
  | false => exact obo_no u f (d + 1) (fun p h1 h2 => hv p h1 (by omega))
theorem difI_til {sa sb : Nat → Nat} (x : Nat × Nat × Nat) (hx : ∀ p, x.1 ≤ p → p ≤ x.2.1 → sa p = x.2.2) (hx1 : x.1 ≤ x.2.1) (hxb : x.2.1 < 1114112) : ∀ {l : List (Nat × Nat × Nat)} {low : Nat}, Til sb 1114112 low l →
    difI x l (oneByOne (fun p => decide (sa p ≠ sb p)) (max x.1 (min (x.2.1 + 1) low))) = oneByOne (fun p => decide (sa p ≠ sb p)) (x.2.1 + 1)
  | [], low, h => by
    obtain rfl : low = 1114112 := h
    rw [show max x.1 (min (x.2.1 + 1) 1114112) = x.2.1 + 1 by omega]
    rfl
  | y :: l, low, h => by
    obtain ⟨h1, h2, h3, h4, h5⟩ := h
    have hle := h5.le
    have ih := difI_til x hx hx1 hxb h5
    simp only [difI]
    rw [← ih]
    congr 1
    rw [h1]
    by_cases hcase : max x.1 low ≤ min x.2.1 y.2.1
    · rw [show max x.1 (min (x.2.1 + 1) low) = max x.1 low by omega, show max x.1 (min (x.2.1 + 1) (y.2.1 + 1)) = min x.2.1 y.2.1 + 1 by omega]
      rw [obo_span (fun p => decide (sa p ≠ sb p)) (max x.1 low) (min x.2.1 y.2.1) hcase (decide (x.2.2 ≠ y.2.2)) (fun p ha hb => by show decide (sa p ≠ sb p) = _; rw [hx p (by omega) (by omega), h3 p (by omega) (by omega)])]
      by_cases he : x.2.2 = y.2.2
      · simp [he]
      · simp [he, hcase]
    · rw [if_neg (fun h => hcase h.1)]
      by_cases hlow : x.2.1 < low
      · rw [show max x.1 (min (x.2.1 + 1) low) = x.2.1 + 1 by omega, show max x.1 (min (x.2.1 + 1) (y.2.1 + 1)) = x.2.1 + 1 by omega]
      · rw [show max x.1 (min (x.2.1 + 1) low) = x.1 by omega, show max x.1 (min (x.2.1 + 1) (y.2.1 + 1)) = x.1 by omega]
theorem difO_til {sa sb : Nat → Nat} {b : List (Nat × Nat × Nat)} (hb : Til sb 1114112 0 b) : ∀ {l : List (Nat × Nat × Nat)} {low : Nat}, Til sa 1114112 low l →
    difO b l (oneByOne (fun p => decide (sa p ≠ sb p)) low) = oneByOne (fun p => decide (sa p ≠ sb p)) 1114112
  | [], low, h => by
    obtain rfl : low = 1114112 := h
    rfl
  | x :: l, low, h => by
    obtain ⟨h1, h2, h3, h4, h5⟩ := h
    have hle := h5.le
    simp only [difO]
    have := difI_til x (sa := sa) (by rw [h1]; exact h3) (by omega) (by omega) hb
    rw [show max x.1 (min (x.2.1 + 1) 0) = low by omega] at this
    rw [this]
    exact difO_til hb h5
theorem obo_last (u : Nat → Bool) : ∀ p, ∀ z ∈ (oneByOne u p).getLast?, z.2.1 < p
  | 0, z, hz => by simp [oneByOne] at hz
  | p + 1, z, hz => by
    have ih := obo_last u p
    simp only [oneByOne] at hz
    split at hz
    · rcases snoc_or (oneByOne u p) with h | ⟨l, a, b, n, h⟩
      · rw [h, pushD_nil rfl] at hz
        simp at hz
        subst hz
        show p < p + 1
        omega
      · rw [h, pushD_snoc] at hz
        split at hz
        · simp at hz
          subst hz
          show p < p + 1
          omega
        · simp at hz
          subst hz
          show p < p + 1
          omega
    · have := ih z hz
      omega
theorem pushD_apart {f t : Nat} {out : List (Nat × Nat × Nat)} (h : ∀ z ∈ out.getLast?, z.2.1 + 1 ≠ f) : pushD f t out = out ++ [(f, t, 1)] := by
  rcases snoc_or out with rfl | ⟨l, a, b, n, rfl⟩
  · exact pushD_nil rfl
  · rw [pushD_snoc, if_neg (h (a, b, n) (by simp))]
theorem obo_til {say : Nat → Nat} {N : Nat} : ∀ {l : List (Nat × Nat × Nat)} {low : Nat}, Til say N low l → ((∃ z ∈ l.head?, z.2.2 = 1) → ∀ z ∈ (oneByOne (fun p => decide (say p = 1)) low).getLast?, z.2.1 + 1 ≠ low) →
    oneByOne (fun p => decide (say p = 1)) N = oneByOne (fun p => decide (say p = 1)) low ++ l.filter (fun x => decide (x.2.2 = 1))
  | [], low, h, _ => by
    obtain rfl : low = N := h
    simp
  | x :: l, low, h, hap => by
    obtain ⟨h1, h2, h3, h4, h5⟩ := h
    have hsp := obo_span (fun p => decide (say p = 1)) low x.2.1 h2 (decide (x.2.2 = 1)) (fun p ha hb => by show decide (say p = 1) = _; rw [h3 p ha hb])
    by_cases hx : x.2.2 = 1
    · rw [decide_eq_true hx, if_pos rfl, pushD_apart (hap ⟨x, rfl, hx⟩)] at hsp
      rw [obo_til h5 (fun ⟨z, hz, hz1⟩ => absurd (hz1.trans hx.symm) (h4 z hz)), hsp]
      obtain ⟨x0, x1, x2⟩ := x
      simp only at h1 hx
      subst h1 hx
      simp
    · rw [decide_eq_false hx] at hsp
      have hsp' : oneByOne (fun p => decide (say p = 1)) (x.2.1 + 1) = oneByOne (fun p => decide (say p = 1)) low := by simpa using hsp
      rw [obo_til h5 (fun _ z hz => by rw [hsp'] at hz; have := obo_last _ _ z hz; omega), hsp', List.filter_cons_of_neg (by simpa using hx)]
/-- Differ by the document: of the stretches those that are unlike. -/
theorem difO_is {sa sb say : Nat → Nat} (hs : ∀ p, say p = if sa p = sb p then 0 else 1) {a b l : List (Nat × Nat × Nat)} (ha : Til sa 1114112 0 a) (hb : Til sb 1114112 0 b) (hl : Til say 1114112 0 l) : difO b a [] = l.filter (fun x => decide (x.2.2 = 1)) := by
  have h1 := difO_til hb ha
  have hu : (fun p => decide (sa p ≠ sb p)) = fun p => decide (say p = 1) := by
    funext p
    rw [hs p]
    by_cases h : sa p = sb p <;> simp [h]
  rw [hu] at h1
  have h2 := obo_til hl (fun _ z hz => by simp [oneByOne] at hz)
  rw [show difO b a [] = difO b a (oneByOne (fun p => decide (say p = 1)) 0) from rfl]
  exact h1.trans h2

end Go.Proofs.Ytajmbafljncjcaa.PStageOver
