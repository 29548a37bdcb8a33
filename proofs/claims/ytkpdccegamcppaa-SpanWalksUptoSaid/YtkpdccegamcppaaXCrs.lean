/- What is in both of two sets of spans: crossed. -/
import Derived.Test.YtkpdccegamcppaaXEvI
import Derived.Test.YtkpdccegamcppaaPSpanx12
namespace Go.Proofs.Ytkpdccegamcppaa.PSpan
open Go.RowKit Go.Proofs.YtkpdccegamcppaaW.PrintWords Go.Proofs.YtkpdccegamcppaaW.PrintLast Go.Proofs.YtkpdccegamcppaaW.PrintMore Go.Proofs.Ytkpdccegamcppaa.SpanP
set_option linter.unusedVariables false
set_option linter.unusedSimpArgs false

/-- How things stand when parts of what is in both have been told. -/
structure CrInv (W : Int → Prop) (a b out : List Sn) (la lb L : Int) : Prop where
  ra : Rise la (prs a)
  rb : Rise lb (prs b)
  la0 : 0 ≤ la
  lb0 : 0 ≤ lb
  ro : Rise 0 (prs out)
  far : ∀ z ∈ out, z.f1 + 2 ≤ L
  ge : ∀ p, Mem (prs a) p → Mem (prs b) p → L ≤ p
  mem : ∀ p, W p ↔ (Mem (prs out) p ∨ (Mem (prs a) p ∧ Mem (prs b) p))
theorem getLast_prs {out : List Sn} {z : Sp} (h : (prs out).getLast? = some z) : ∃ y ∈ out, pr y = z := by
  have := List.mem_of_getLast? h
  obtain ⟨y, hy, e⟩ := List.mem_map.1 this
  exact ⟨y, hy, e⟩
/-- What is in both of the first ones is told; then the one that ends first is passed. -/
theorem CrInv.piece {W : Int → Prop} {x y : Sn} {a b out : List Sn} {la lb L : Int} (h : CrInv W (x :: a) (y :: b) out la lb L) {f t : Int} (hf : f = mx x.f0 y.f0) (ht : t = mn x.f1 y.f1) (hft : f ≤ t) :
    (x.f1 < y.f1 → CrInv W a (y :: b) (out ++ [⟨f, t⟩]) (x.f1 + 2) lb (t + 2)) ∧ (¬ x.f1 < y.f1 → CrInv W (x :: a) b (out ++ [⟨f, t⟩]) la (y.f1 + 2) (t + 2)) := by
  obtain ⟨a1, a2, a3, a4⟩ := h.ra
  obtain ⟨b1, b2, b3, b4⟩ := h.rb
  have a1' : la ≤ x.f0 := a1
  have a2' : x.f0 ≤ x.f1 := a2
  have a3' : x.f1 ≤ 1114111 := a3
  have b1' : lb ≤ y.f0 := b1
  have b2' : y.f0 ≤ y.f1 := b2
  have b3' : y.f1 ≤ 1114111 := b3
  have h0 := h.la0
  have h1 := h.lb0
  have hf' : (f = x.f0 ∨ f = y.f0) ∧ x.f0 ≤ f ∧ y.f0 ≤ f := by rw [hf]; unfold mx; omega
  have ht' : (t = x.f1 ∨ t = y.f1) ∧ t ≤ x.f1 ∧ t ≤ y.f1 := by rw [ht]; unfold mn; omega
  clear hf ht
  have ga : ∀ p, Mem (prs a) p → x.f1 + 2 ≤ p := fun p hp => (Rise.mem_ge a4 hp).1
  have gb : ∀ p, Mem (prs b) p → y.f1 + 2 ≤ p := fun p hp => (Rise.mem_ge b4 hp).1
  have hLf : L ≤ f := h.ge f (by rw [mem_prs_cons]; exact .inl ⟨by omega, by omega⟩) (by rw [mem_prs_cons]; exact .inl ⟨by omega, by omega⟩)
  have hro : Rise 0 (prs (out ++ [⟨f, t⟩])) := by
    rw [prs_append]
    refine h.ro.snoc hft (by show t ≤ 1114111; omega) (by show 0 ≤ f; omega) (fun z hz => ?_)
    obtain ⟨w, hw, rfl⟩ := getLast_prs hz
    have := h.far w hw
    show w.f1 + 2 ≤ f
    omega
  have hfar : ∀ z ∈ out ++ [(⟨f, t⟩ : Sn)], z.f1 + 2 ≤ t + 2 := fun z hz => by
    rcases List.mem_append.1 hz with hz | hz
    · have := h.far z hz; omega
    · rw [List.mem_singleton.1 hz]; exact Int.le_refl _
  have hmo : ∀ p, Mem (prs (out ++ [(⟨f, t⟩ : Sn)])) p ↔ (Mem (prs out) p ∨ (f ≤ p ∧ p ≤ t)) := fun p => by
    rw [prs_append, mem_append]
    show (_ ∨ Mem [(f, t)] p) ↔ _
    rw [mem_cons]
    have := mem_nil p
    constructor
    · rintro (k | k | k)
      · exact .inl k
      · exact .inr k
      · exact absurd k this
    · rintro (k | k)
      · exact .inl k
      · exact .inr (.inl k)
  refine ⟨fun hlt => ⟨a4, h.rb, by omega, h1, hro, hfar, fun p h1 h2 => by have := ga p h1; omega, fun p => ?_⟩, fun hlt => ⟨h.ra, b4, h0, by omega, hro, hfar, fun p h1 h2 => by have := gb p h2; omega, fun p => ?_⟩⟩
  · rw [h.mem p, hmo p, mem_prs_cons, mem_prs_cons]
    have g1 := ga p
    have g2 := gb p
    constructor
    · rintro (k | ⟨k1 | k1, k2 | k2⟩)
      · exact .inl (.inl k)
      · exact .inl (.inr (by omega))
      · have := g2 k2; omega
      · exact .inr ⟨k1, .inl k2⟩
      · exact .inr ⟨k1, .inr k2⟩
    · rintro ((k | k) | ⟨k1, k2⟩)
      · exact .inl k
      · exact .inr ⟨.inl (by omega), .inl (by omega)⟩
      · exact .inr ⟨.inr k1, k2⟩
  · rw [h.mem p, hmo p, mem_prs_cons, mem_prs_cons]
    have g1 := ga p
    have g2 := gb p
    constructor
    · rintro (k | ⟨k1 | k1, k2 | k2⟩)
      · exact .inl (.inl k)
      · exact .inl (.inr (by omega))
      · exact .inr ⟨.inl k1, k2⟩
      · have := g1 k1; omega
      · exact .inr ⟨.inr k1, k2⟩
    · rintro ((k | k) | ⟨k1, k2⟩)
      · exact .inl k
      · exact .inr ⟨.inl (by omega), .inl (by omega)⟩
      · exact .inr ⟨k1, .inr k2⟩
/-- The first ones have nothing in both. -/
theorem CrInv.pass {W : Int → Prop} {x y : Sn} {a b out : List Sn} {la lb L : Int} (h : CrInv W (x :: a) (y :: b) out la lb L) (hft : ¬ mx x.f0 y.f0 ≤ mn x.f1 y.f1) :
    (x.f1 < y.f1 → CrInv W a (y :: b) out (x.f1 + 2) lb L) ∧ (¬ x.f1 < y.f1 → CrInv W (x :: a) b out la (y.f1 + 2) L) := by
  obtain ⟨a1, a2, a3, a4⟩ := h.ra
  obtain ⟨b1, b2, b3, b4⟩ := h.rb
  have a1' : la ≤ x.f0 := a1
  have a2' : x.f0 ≤ x.f1 := a2
  have b1' : lb ≤ y.f0 := b1
  have b2' : y.f0 ≤ y.f1 := b2
  have h0 := h.la0
  have h1 := h.lb0
  have hno : ¬ (x.f0 ≤ y.f1 ∧ y.f0 ≤ x.f1) := by unfold mx mn at hft; omega
  have ga : ∀ p, Mem (prs a) p → x.f1 + 2 ≤ p := fun p hp => (Rise.mem_ge a4 hp).1
  have gb : ∀ p, Mem (prs b) p → y.f1 + 2 ≤ p := fun p hp => (Rise.mem_ge b4 hp).1
  refine ⟨fun hlt => ⟨a4, h.rb, by omega, h1, h.ro, h.far, fun p k1 k2 => h.ge p ((mem_prs_cons _ _ _).2 (.inr k1)) k2, fun p => ?_⟩, fun hlt => ⟨h.ra, b4, h0, by omega, h.ro, h.far, fun p k1 k2 => h.ge p k1 ((mem_prs_cons _ _ _).2 (.inr k2)), fun p => ?_⟩⟩
  · rw [h.mem p, mem_prs_cons, mem_prs_cons]
    have g2 := gb p
    constructor
    · rintro (k | ⟨k1 | k1, k2⟩)
      · exact .inl k
      · rcases k2 with k2 | k2
        · omega
        · have := g2 k2; omega
      · exact .inr ⟨k1, k2⟩
    · rintro (k | ⟨k1, k2⟩)
      · exact .inl k
      · exact .inr ⟨.inr k1, k2⟩
  · rw [h.mem p, mem_prs_cons, mem_prs_cons]
    have g1 := ga p
    constructor
    · rintro (k | ⟨k1, k2 | k2⟩)
      · exact .inl k
      · rcases k1 with k1 | k1
        · omega
        · have := g1 k1; omega
      · exact .inr ⟨k1, k2⟩
    · rintro (k | ⟨k1, k2⟩)
      · exact .inl k
      · exact .inr ⟨k1, .inr k2⟩

theorem rd0_cons (x : Sn) (l : List Sn) : rd_T50 (x :: l) 0 = x := rfl
theorem crossed_l : ∀ (d : Nat) (a b out : List Sn) (W : Int → Prop) (la lb L : Int), a.length + b.length ≤ d → out.length + (a.length + b.length) ≤ 16777216 → CrInv W a b out la lb L →
    ∃ r, Ev (fun k => span_crossed.l0 k a b out) r ∧ Rise 0 (prs r) ∧ (∀ p, Mem (prs r) p ↔ W p) ∧ r.length ≤ out.length + (a.length + b.length) := by
  intro d
  induction d with
  | zero =>
    intro a b out W la lb L hd hl h
    obtain rfl : a = [] := List.eq_nil_of_length_eq_zero (by omega)
    refine ⟨out, Ev.step (f := fun k => span_crossed.j1 k [] b out false) (fun k => by simp only [span_crossed.l0]; rw [if_neg (by simp)]) (Ev.step (f := fun _ => some out) (fun k => by simp only [span_crossed.j1]; rw [if_neg (by decide)]) (Ev.now _)), h.ro, fun p => ?_, by omega⟩
    rw [h.mem p]
    exact ⟨fun k => .inl k, fun k => k.elim id (fun k => absurd k.1 (mem_nil p))⟩
  | succ d ih =>
    intro a b out W la lb L hd hl h
    cases a with
    | nil =>
      refine ⟨out, Ev.step (f := fun k => span_crossed.j1 k [] b out false) (fun k => by simp only [span_crossed.l0]; rw [if_neg (by simp)]) (Ev.step (f := fun _ => some out) (fun k => by simp only [span_crossed.j1]; rw [if_neg (by decide)]) (Ev.now _)), h.ro, fun p => ?_, by omega⟩
      rw [h.mem p]
      exact ⟨fun k => .inl k, fun k => k.elim id (fun k => absurd k.1 (mem_nil p))⟩
    | cons x a =>
      cases b with
      | nil =>
        refine ⟨out, Ev.step (f := fun k => span_crossed.j1 k (x :: a) [] out false) (fun k => by simp only [span_crossed.l0]; rw [if_pos (by simp only [List.length_cons]; omega)]; simp) (Ev.step (f := fun _ => some out) (fun k => by simp only [span_crossed.j1]; rw [if_neg (by decide)]) (Ev.now _)), h.ro, fun p => ?_, by omega⟩
        rw [h.mem p]
        exact ⟨fun k => .inl k, fun k => k.elim id (fun k => absurd k.2 (mem_nil p))⟩
      | cons y b =>
        simp only [List.length_cons] at hd hl
        have i1 : ((x :: a).length : Int) > 0 := by simp only [List.length_cons]; omega
        have i2 : ((y :: b).length : Int) > 0 := by simp only [List.length_cons]; omega
        have i1' : (0 : Int) < ((x :: a).length : Int) := i1
        have i2' : (0 : Int) < ((y :: b).length : Int) := i2
        have i3 : (1 : Int) ≤ ((x :: a).length : Int) := by omega
        have i4 : (1 : Int) ≤ ((y :: b).length : Int) := by omega
        have i5 : out.length < 17592186044416 := by omega
        have go : ∀ (r : List Sn), Ev (fun k => span_crossed.j1 k (x :: a) (y :: b) out true) r → Ev (fun k => span_crossed.l0 k (x :: a) (y :: b) out) r := fun r hr =>
          Ev.step (fun k => by simp only [span_crossed.l0]; rw [if_pos i1, decide_eq_true i2]) hr
        by_cases hft : mx x.f0 y.f0 ≤ mn x.f1 y.f1
        · have hp := h.piece rfl rfl hft
          by_cases hlt : x.f1 < y.f1
          · obtain ⟨r, r1, r2, r3, r4⟩ := ih _ _ _ _ _ _ _ (by simp only [List.length_cons]; omega) (by simp only [List.length_append, List.length_cons, List.length_nil]; omega) (hp.1 hlt)
            refine ⟨r, go r (Ev.step (fun k => ?_) r1), r2, r3, ?_⟩
            · simp only [span_crossed.j1]
              rw [rd0_cons, rd0_cons, if_pos trivial, if_pos i1', if_pos i2', if_pos hft, if_pos i5]
              simp only [Option.bind_some]
              rw [if_pos hlt, if_pos i3]
              rfl
            · simp only [List.length_append, List.length_cons, List.length_nil] at r4 ⊢; omega
          · obtain ⟨r, r1, r2, r3, r4⟩ := ih _ _ _ _ _ _ _ (by simp only [List.length_cons]; omega) (by simp only [List.length_append, List.length_cons, List.length_nil]; omega) (hp.2 hlt)
            refine ⟨r, go r (Ev.step (fun k => ?_) r1), r2, r3, ?_⟩
            · simp only [span_crossed.j1]
              rw [rd0_cons, rd0_cons, if_pos trivial, if_pos i1', if_pos i2', if_pos hft, if_pos i5]
              simp only [Option.bind_some]
              rw [if_neg hlt, if_pos i4]
              rfl
            · simp only [List.length_append, List.length_cons, List.length_nil] at r4 ⊢; omega
        · have hp := h.pass hft
          by_cases hlt : x.f1 < y.f1
          · obtain ⟨r, r1, r2, r3, r4⟩ := ih _ _ _ _ _ _ _ (by simp only [List.length_cons]; omega) (by simp only [List.length_cons]; omega) (hp.1 hlt)
            refine ⟨r, go r (Ev.step (fun k => ?_) r1), r2, r3, ?_⟩
            · simp only [span_crossed.j1]
              rw [rd0_cons, rd0_cons, if_pos trivial, if_pos i1', if_pos i2', if_neg hft, if_pos hlt, if_pos i3]
              rfl
            · simp only [List.length_cons] at r4 ⊢; omega
          · obtain ⟨r, r1, r2, r3, r4⟩ := ih _ _ _ _ _ _ _ (by simp only [List.length_cons]; omega) (by simp only [List.length_cons]; omega) (hp.2 hlt)
            refine ⟨r, go r (Ev.step (fun k => ?_) r1), r2, r3, ?_⟩
            · simp only [span_crossed.j1]
              rw [rd0_cons, rd0_cons, if_pos trivial, if_pos i1', if_pos i2', if_neg hft, if_neg hlt, if_pos i4]
              rfl
            · simp only [List.length_cons] at r4 ⊢; omega
theorem crossed_ev {a b : List Sn} (ha : Rise 0 (prs a)) (hb : Rise 0 (prs b)) (hl : a.length + b.length ≤ 16777216) :
    ∃ r, Ev (fun k => span_crossed.f k a b) r ∧ Rise 0 (prs r) ∧ (∀ p, Mem (prs r) p ↔ (Mem (prs a) p ∧ Mem (prs b) p)) ∧ r.length ≤ a.length + b.length := by
  obtain ⟨r, r1, r2, r3, r4⟩ := crossed_l (a.length + b.length) a b [] (fun p => Mem (prs a) p ∧ Mem (prs b) p) 0 0 0 (Nat.le_refl _) (by simpa using hl) ⟨ha, hb, Int.le_refl _, Int.le_refl _, trivial, (fun z hz => by cases hz), (fun p h1 h2 => (ha.mem_ge h1).1), fun p => ⟨fun k => .inr k, fun k => k.elim (fun k => absurd k (mem_nil p)) id⟩⟩
  exact ⟨r, r1, r2, r3, by simpa using r4⟩

end Go.Proofs.Ytkpdccegamcppaa.PSpan
