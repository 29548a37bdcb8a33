/- Spans as plain lists of pairs: sets, what is in them, that a set is told by what is in it. -/
namespace Go.Proofs.Ytkpdccegamcppaa.SpanP
abbrev Sp := Int × Int
def Mem (l : List Sp) (p : Int) : Prop := ∃ x ∈ l, x.1 ≤ p ∧ p ≤ x.2
theorem mem_nil (p : Int) : ¬ Mem [] p := fun ⟨_, h, _⟩ => by cases h
theorem mem_cons {x : Sp} {l : List Sp} {p : Int} : Mem (x :: l) p ↔ (x.1 ≤ p ∧ p ≤ x.2) ∨ Mem l p := by
  unfold Mem
  constructor
  · rintro ⟨y, hy, h⟩
    rcases List.mem_cons.1 hy with rfl | hy
    · exact .inl h
    · exact .inr ⟨y, hy, h⟩
  · rintro (h | ⟨y, hy, h⟩)
    · exact ⟨x, List.mem_cons_self, h⟩
    · exact ⟨y, List.mem_cons_of_mem _ hy, h⟩
theorem mem_append {a b : List Sp} {p : Int} : Mem (a ++ b) p ↔ Mem a p ∨ Mem b p := by
  unfold Mem
  constructor
  · rintro ⟨y, hy, h⟩
    rcases List.mem_append.1 hy with hy | hy
    · exact .inl ⟨y, hy, h⟩
    · exact .inr ⟨y, hy, h⟩
  · rintro (⟨y, hy, h⟩ | ⟨y, hy, h⟩)
    · exact ⟨y, List.mem_append_left _ hy, h⟩
    · exact ⟨y, List.mem_append_right _ hy, h⟩

def may (x : Sp) : Prop := 0 ≤ x.1 ∧ x.1 ≤ x.2 ∧ x.2 ≤ 1114111
instance (x : Sp) : Decidable (may x) := by unfold may; exact inferInstance
/-- Rising from low on, with room between each two. -/
def Rise : Int → List Sp → Prop
  | _, [] => True
  | low, x :: l => low ≤ x.1 ∧ x.1 ≤ x.2 ∧ x.2 ≤ 1114111 ∧ Rise (x.2 + 2) l
instance decRise : (low : Int) → (l : List Sp) → Decidable (Rise low l)
  | _, [] => isTrue trivial
  | low, x :: l => by
    have := decRise (x.2 + 2) l
    unfold Rise
    exact inferInstance
theorem Rise.weaken {l : List Sp} {low low' : Int} (h : Rise low l) (hl : low' ≤ low) : Rise low' l := by
  cases l with
  | nil => trivial
  | cons x l => exact ⟨by have := h.1; omega, h.2⟩
theorem Rise.ge : ∀ {l : List Sp} {low : Int}, Rise low l → ∀ x ∈ l, low ≤ x.1 ∧ x.1 ≤ x.2 ∧ x.2 ≤ 1114111
  | [], _, _, _, h => by cases h
  | y :: l, low, hr, x, h => by
    obtain ⟨h1, h2, h3, h4⟩ := hr
    rcases List.mem_cons.1 h with rfl | h
    · exact ⟨h1, h2, h3⟩
    · have := Rise.ge h4 x h
      omega
theorem Rise.mem_ge {l : List Sp} {low : Int} (h : Rise low l) {p : Int} (hp : Mem l p) : low ≤ p ∧ p ≤ 1114111 := by
  obtain ⟨x, hx, h1, h2⟩ := hp
  have := h.ge x hx
  omega
/-- A set is told by what is in it. -/
theorem Rise.uniq : ∀ {a b : List Sp} {low low' : Int}, Rise low a → Rise low' b → (∀ p, Mem a p ↔ Mem b p) → a = b
  | [], [], _, _, _, _, _ => rfl
  | [], y :: b, _, _, _, hb, h => by
    exact absurd ((h y.1).2 ⟨y, List.mem_cons_self, Int.le_refl _, hb.2.1⟩) (mem_nil _)
  | x :: a, [], _, _, ha, _, h => by
    exact absurd ((h x.1).1 ⟨x, List.mem_cons_self, Int.le_refl _, ha.2.1⟩) (mem_nil _)
  | x :: a, y :: b, low, low', ha, hb, h => by
    obtain ⟨a1, a2, a3, a4⟩ := ha
    obtain ⟨b1, b2, b3, b4⟩ := hb
    have ga : ∀ p, Mem a p → x.2 + 2 ≤ p := fun p hp => (a4.mem_ge hp).1
    have gb : ∀ p, Mem b p → y.2 + 2 ≤ p := fun p hp => (b4.mem_ge hp).1
    have h' : ∀ p, ((x.1 ≤ p ∧ p ≤ x.2) ∨ Mem a p) ↔ ((y.1 ≤ p ∧ p ≤ y.2) ∨ Mem b p) := fun p => by rw [← mem_cons, ← mem_cons]; exact h p
    have e1 : x.1 = y.1 := by
      have k1 := (h' x.1).1 (.inl ⟨Int.le_refl _, a2⟩)
      have k2 := (h' y.1).2 (.inl ⟨Int.le_refl _, b2⟩)
      rcases k1 with k1 | k1
      · rcases k2 with k2 | k2
        · omega
        · have := ga _ k2; omega
      · have := gb _ k1
        rcases k2 with k2 | k2
        · omega
        · have := ga _ k2; omega
    have e2 : x.2 = y.2 := by
      have k1 := (h' (x.2 + 1))
      have k2 := (h' (y.2 + 1))
      have n1 : ¬ Mem a (x.2 + 1) := fun hm => by have := ga _ hm; omega
      have n2 : ¬ Mem b (y.2 + 1) := fun hm => by have := gb _ hm; omega
      rcases Int.lt_trichotomy x.2 y.2 with hlt | he | hgt
      · rcases k1.2 (.inl ⟨by omega, by omega⟩) with k | k
        · omega
        · exact absurd k n1
      · exact he
      · rcases k2.1 (.inl ⟨by omega, by omega⟩) with k | k
        · omega
        · exact absurd k n2
    have ht : ∀ p, Mem a p ↔ Mem b p := fun p => by
      have k := h' p
      constructor
      · intro hm
        have g := ga _ hm
        rcases k.1 (.inr hm) with k | k
        · omega
        · exact k
      · intro hm
        have g := gb _ hm
        rcases k.2 (.inr hm) with k | k
        · omega
        · exact k
    rw [Prod.ext e1 e2, Rise.uniq a4 b4 ht]
theorem Rise.snoc : ∀ {l : List Sp} {low : Int} {x : Sp}, Rise low l → x.1 ≤ x.2 → x.2 ≤ 1114111 → low ≤ x.1 → (∀ z, l.getLast? = some z → z.2 + 2 ≤ x.1) → Rise low (l ++ [x])
  | [], low, x, _, h1, h2, h3, _ => ⟨h3, h1, h2, trivial⟩
  | y :: l, low, x, hr, h1, h2, h3, h4 => by
    obtain ⟨r1, r2, r3, r4⟩ := hr
    refine ⟨r1, r2, r3, ?_⟩
    cases l with
    | nil => exact ⟨by have := h4 y rfl; omega, h1, h2, trivial⟩
    | cons z l =>
      refine Rise.snoc r4 h1 h2 ?_ (fun u hu => h4 u (by rw [List.getLast?_cons_cons]; exact hu))
      -- the last one lies at or behind z
      have : ∃ u, (z :: l).getLast? = some u := ⟨_, List.getLast?_eq_some_getLast (by simp)⟩
      obtain ⟨u, hu⟩ := this
      have k := h4 u (by rw [List.getLast?_cons_cons]; exact hu)
      have hm : u ∈ z :: l := List.mem_of_getLast? hu
      have := Rise.ge r4 u hm
      omega
theorem Rise.take : ∀ {l : List Sp} {low : Int}, Rise low l → ∀ n, Rise low (l.take n)
  | [], _, _, n => by rw [List.take_nil]; trivial
  | x :: l, low, h, 0 => trivial
  | x :: l, low, h, n + 1 => ⟨h.1, h.2.1, h.2.2.1, Rise.take h.2.2.2 n⟩
theorem Rise.init : ∀ {l : List Sp} {low : Int} {x : Sp}, Rise low (l ++ [x]) → Rise low l ∧ low ≤ x.1 ∧ x.1 ≤ x.2 ∧ x.2 ≤ 1114111 ∧ ∀ z ∈ l, z.2 + 2 ≤ x.1
  | [], low, x, h => ⟨trivial, h.1, h.2.1, h.2.2.1, fun z hz => by cases hz⟩
  | y :: l, low, x, h => by
    obtain ⟨r1, r2, r3, r4⟩ := h
    obtain ⟨k1, k2, k3, k4, k5⟩ := Rise.init r4
    refine ⟨⟨r1, r2, r3, k1⟩, by omega, k3, k4, fun z hz => ?_⟩
    rcases List.mem_cons.1 hz with rfl | hz
    · exact k2
    · exact k5 z hz

/-- What has been collected of what is in a set W of numbers, up to (not with) hi. -/
structure Upto (W : Int → Prop) (out : List Sp) (hi : Int) : Prop where
  rise : Rise 0 out
  low : ∀ x ∈ out, x.2 < hi
  mem : ∀ p, 0 ≤ p → p < hi → (Mem out p ↔ W p)
theorem Upto.nil (W : Int → Prop) : Upto W [] 0 := ⟨trivial, (fun x h => by cases h), fun p h1 h2 => by omega⟩
/-- A stretch that is out. -/
theorem Upto.skip {W : Int → Prop} {out : List Sp} {hi te : Int} (h : Upto W out hi) (ht : hi ≤ te + 1) (hw : ∀ p, hi ≤ p → p ≤ te → ¬ W p) : Upto W out (te + 1) :=
  ⟨h.rise, (fun x hx => by have := h.low x hx; omega), fun p h1 h2 => by
    by_cases hp : p < hi
    · exact h.mem p h1 hp
    · constructor
      · rintro ⟨x, hx, k1, k2⟩
        have := h.low x hx
        omega
      · intro hwp
        exact absurd hwp (hw p (by omega) (by omega))⟩
/-- A stretch that is in, behind a gap or at the begin. -/
theorem Upto.push {W : Int → Prop} {out : List Sp} {hi te : Int} (h : Upto W out hi) (h0 : 0 ≤ hi) (ht : hi ≤ te) (hm : te ≤ 1114111) (hw : ∀ p, hi ≤ p → p ≤ te → W p) (hl : ∀ z, out.getLast? = some z → z.2 + 1 ≠ hi) : Upto W (out ++ [(hi, te)]) (te + 1) := by
  refine ⟨h.rise.snoc ht hm h0 (fun z hz => ?_), fun x hx => ?_, fun p h1 h2 => ?_⟩
  · have k1 := hl z hz
    have k2 := h.low z (List.mem_of_getLast? hz)
    show z.2 + 2 ≤ hi
    omega
  · rcases List.mem_append.1 hx with hx | hx
    · have := h.low x hx; omega
    · obtain rfl := List.mem_singleton.1 hx
      show te < te + 1
      omega
  · rw [mem_append, mem_cons]
    by_cases hp : p < hi
    · rw [← h.mem p h1 hp]
      constructor
      · rintro (k | k | k)
        · exact k
        · have : hi ≤ p := k.1
          omega
        · exact absurd k (mem_nil _)
      · exact .inl
    · exact ⟨fun _ => hw p (by omega) (by omega), fun _ => .inr (.inl ⟨by show hi ≤ p; omega, by show p ≤ te; omega⟩)⟩
/-- A stretch that is in, at the last one's end. -/
theorem Upto.grow {W : Int → Prop} {out : List Sp} {z : Sp} {hi te : Int} (h : Upto W (out ++ [z]) hi) (he : z.2 + 1 = hi) (ht : hi ≤ te) (hm : te ≤ 1114111) (hw : ∀ p, hi ≤ p → p ≤ te → W p) : Upto W (out ++ [(z.1, te)]) (te + 1) := by
  obtain ⟨k1, k2, k3, k4, k5⟩ := h.rise.init
  refine ⟨k1.snoc (by show z.1 ≤ te; omega) hm k2 (fun u hu => k5 u (List.mem_of_getLast? hu)), fun x hx => ?_, fun p h1 h2 => ?_⟩
  · rcases List.mem_append.1 hx with hx | hx
    · have := h.low x (List.mem_append_left _ hx); omega
    · obtain rfl := List.mem_singleton.1 hx
      show te < te + 1
      omega
  · by_cases hp : p < hi
    · rw [← h.mem p h1 hp, mem_append, mem_append, mem_cons, mem_cons]
      show (_ ∨ (z.1 ≤ p ∧ p ≤ te) ∨ _) ↔ _
      constructor
      · rintro (k | k | k)
        · exact .inl k
        · exact .inr (.inl ⟨k.1, by omega⟩)
        · exact absurd k (mem_nil _)
      · rintro (k | k | k)
        · exact .inl k
        · exact .inr (.inl ⟨k.1, by omega⟩)
        · exact absurd k (mem_nil _)
    · rw [mem_append, mem_cons]
      exact ⟨fun _ => hw p (by omega) (by omega), fun _ => .inr (.inl ⟨by show z.1 ≤ p; omega, by show p ≤ te; omega⟩)⟩

/-- The whole: what is in a set of numbers between 0 and the greatest code point, as a list. -/
theorem Upto.whole {W : Int → Prop} {out : List Sp} (h : Upto W out 1114112) : Rise 0 out ∧ ∀ p, Mem out p ↔ (0 ≤ p ∧ p ≤ 1114111 ∧ W p) :=
  ⟨h.rise, fun p => ⟨fun hm => by
    have k := h.rise.mem_ge hm
    exact ⟨k.1, k.2, (h.mem p k.1 (by omega)).1 hm⟩, fun hm => (h.mem p hm.1 (by omega)).2 hm.2.2⟩⟩
end Go.Proofs.Ytkpdccegamcppaa.SpanP
