/- What span's Union, Cross, Minus, Other come to. -/
import Derived.Test.YtkpdccegamcppaaXMakes
import Derived.Test.YtkpdccegamcppaaPSpanx10
namespace Go.Proofs.Ytkpdccegamcppaa.PSpan
open Go.RowKit Go.Proofs.YtkpdccegamcppaaW.PrintWords Go.Proofs.YtkpdccegamcppaaW.PrintLast Go.Proofs.YtkpdccegamcppaaW.PrintMore Go.Proofs.Ytkpdccegamcppaa.SpanP
set_option linter.unusedVariables false
set_option linter.unusedSimpArgs false

abbrev Sn := S50
theorem Ev.ite_t {α : Type} {g f : Nat → Option α} {r : α} (h : Ev g r) : Ev (fun k => if true = true then g k else f k) r := Ev.congr (fun k => if_pos rfl) h
theorem Ev.ite_f {α : Type} {g f : Nat → Option α} {r : α} (h : Ev f r) : Ev (fun k => if false = true then g k else f k) r := Ev.congr (fun k => if_neg (by decide)) h
/-- A set, if it has not too many spans; and the error. -/
def fitP (r : List Sn) : List Sn × Int := if r.length > 65536 then ([], 71) else (r, 0)
theorem fit_f (r : List Sn) : span_fit.f r = some (fitP r) := by
  unfold span_fit.f fitP
  by_cases h : r.length > 65536
  · rw [if_pos h, if_pos (by omega)]
  · rw [if_neg h, if_neg (by omega)]
theorem fit_ev (r : List Sn) : Ev (fun _ => (span_fit.f r).bind fun b => some (b.1, b.2)) (fitP r) := Ev.congr (fun k => by rw [fit_f]; rfl) (Ev.now _)
theorem mem_prs_cons (x : Sn) (l : List Sn) (p : Int) : Mem (prs (x :: l)) p ↔ (x.f0 ≤ p ∧ p ≤ x.f1) ∨ Mem (prs l) p := mem_cons
theorem isB_iff {l : List Sp} : isB l = true ↔ Rise 0 l ∧ l.length ≤ 65536 := by
  unfold isB
  rw [Bool.and_eq_true, decide_eq_true_eq, decide_eq_true_eq]
theorem isB_may {l : List Sn} (h : isB (prs l) = true) : mayL l = true ∧ l.length ≤ 65536 := by
  obtain ⟨h1, h2⟩ := isB_iff.1 h
  rw [prs_len] at h2
  refine ⟨List.all_eq_true.2 fun x hx => ?_, h2⟩
  have := h1.ge (pr x) (List.mem_map_of_mem hx)
  exact decide_eq_true ⟨by omega, this.2.1, this.2.2⟩

/-- How things stand when parts of what is in both have been told. -/
structure CrInv (W : Int → Prop) (a b out : List Sn) (la lb L : Int) : Prop where
  ra : Rise la (prs a)
  rb : Rise lb (prs b)
  la0 : 0 ≤ la
  lb0 : 0 ≤ lb
  ro : Rise 0 (prs out)
  far : ∀ z ∈ out, z.f1 + 2 ≤ L
  ge : ∀ p, Mem (prs a) p → Mem (prs b) p → L ≤ p
  mem : ∀ p, W p ↔ (Mem (prs out) p ∨ (Mem (prs a) p ∧ Mem (prs b) p))
theorem getLast_prs {out : List Sn} {z : Sp} (h : (prs out).getLast? = some z) : ∃ y ∈ out, pr y = z := by
  have := List.mem_of_getLast? h
  obtain ⟨y, hy, e⟩ := List.mem_map.1 this
  exact ⟨y, hy, e⟩
/-- What is in both of the first ones is told; then the one that ends first is passed. -/
theorem CrInv.piece {W : Int → Prop} {x y : Sn} {a b out : List Sn} {la lb L : Int} (h : CrInv W (x :: a) (y :: b) out la lb L) {f t : Int} (hf : f = mx x.f0 y.f0) (ht : t = mn x.f1 y.f1) (hft : f ≤ t) :
    (x.f1 < y.f1 → CrInv W a (y :: b) (out ++ [⟨f, t⟩]) (x.f1 + 2) lb (t + 2)) ∧ (¬ x.f1 < y.f1 → CrInv W (x :: a) b (out ++ [⟨f, t⟩]) la (y.f1 + 2) (t + 2)) := by
  obtain ⟨a1, a2, a3, a4⟩ := h.ra
  obtain ⟨b1, b2, b3, b4⟩ := h.rb
  have a1' : la ≤ x.f0 := a1
  have a2' : x.f0 ≤ x.f1 := a2
  have a3' : x.f1 ≤ 1114111 := a3
  have b1' : lb ≤ y.f0 := b1
  have b2' : y.f0 ≤ y.f1 := b2
  have b3' : y.f1 ≤ 1114111 := b3
  have h0 := h.la0
  have h1 := h.lb0
  have hf' : (f = x.f0 ∨ f = y.f0) ∧ x.f0 ≤ f ∧ y.f0 ≤ f := by rw [hf]; unfold mx; omega
  have ht' : (t = x.f1 ∨ t = y.f1) ∧ t ≤ x.f1 ∧ t ≤ y.f1 := by rw [ht]; unfold mn; omega
  clear hf ht
  have ga : ∀ p, Mem (prs a) p → x.f1 + 2 ≤ p := fun p hp => (Rise.mem_ge a4 hp).1
  have gb : ∀ p, Mem (prs b) p → y.f1 + 2 ≤ p := fun p hp => (Rise.mem_ge b4 hp).1
  have hLf : L ≤ f := h.ge f (by rw [mem_prs_cons]; exact .inl ⟨by omega, by omega⟩) (by rw [mem_prs_cons]; exact .inl ⟨by omega, by omega⟩)
  have hro : Rise 0 (prs (out ++ [⟨f, t⟩])) := by
    rw [prs_append]
    refine h.ro.snoc hft (by show t ≤ 1114111; omega) (by show 0 ≤ f; omega) (fun z hz => ?_)
    obtain ⟨w, hw, rfl⟩ := getLast_prs hz
    have := h.far w hw
    show w.f1 + 2 ≤ f
    omega
  have hfar : ∀ z ∈ out ++ [(⟨f, t⟩ : Sn)], z.f1 + 2 ≤ t + 2 := fun z hz => by
    rcases List.mem_append.1 hz with hz | hz
    · have := h.far z hz; omega
    · rw [List.mem_singleton.1 hz]; exact Int.le_refl _
  have hmo : ∀ p, Mem (prs (out ++ [(⟨f, t⟩ : Sn)])) p ↔ (Mem (prs out) p ∨ (f ≤ p ∧ p ≤ t)) := fun p => by
    rw [prs_append, mem_append]
    show (_ ∨ Mem [(f, t)] p) ↔ _
    rw [mem_cons]
    have := mem_nil p
    constructor
    · rintro (k | k | k)
      · exact .inl k
      · exact .inr k
      · exact absurd k this
    · rintro (k | k)
      · exact .inl k
      · exact .inr (.inl k)
  refine ⟨fun hlt => ⟨a4, h.rb, by omega, h1, hro, hfar, fun p h1 h2 => by have := ga p h1; omega, fun p => ?_⟩, fun hlt => ⟨h.ra, b4, h0, by omega, hro, hfar, fun p h1 h2 => by have := gb p h2; omega, fun p => ?_⟩⟩
  · rw [h.mem p, hmo p, mem_prs_cons, mem_prs_cons]
    have g1 := ga p
    have g2 := gb p
    constructor
    · rintro (k | ⟨k1 | k1, k2 | k2⟩)
      · exact .inl (.inl k)
      · exact .inl (.inr (by omega))
      · have := g2 k2; omega
      · exact .inr ⟨k1, .inl k2⟩
      · exact .inr ⟨k1, .inr k2⟩
    · rintro ((k | k) | ⟨k1, k2⟩)
      · exact .inl k
      · exact .inr ⟨.inl (by omega), .inl (by omega)⟩
      · exact .inr ⟨.inr k1, k2⟩
  · rw [h.mem p, hmo p, mem_prs_cons, mem_prs_cons]
    have g1 := ga p
    have g2 := gb p
    constructor
    · rintro (k | ⟨k1 | k1, k2 | k2⟩)
      · exact .inl (.inl k)
      · exact .inl (.inr (by omega))
      · exact .inr ⟨.inl k1, k2⟩
      · have := g1 k1; omega
      · exact .inr ⟨.inr k1, k2⟩
    · rintro ((k | k) | ⟨k1, k2⟩)
      · exact .inl k
      · exact .inr ⟨.inl (by omega), .inl (by omega)⟩
      · exact .inr ⟨k1, .inr k2⟩
/-- The first ones have nothing in both. -/
theorem CrInv.pass {W : Int → Prop} {x y : Sn} {a b out : List Sn} {la lb L : Int} (h : CrInv W (x :: a) (y :: b) out la lb L) (hft : ¬ mx x.f0 y.f0 ≤ mn x.f1 y.f1) :
    (x.f1 < y.f1 → CrInv W a (y :: b) out (x.f1 + 2) lb L) ∧ (¬ x.f1 < y.f1 → CrInv W (x :: a) b out la (y.f1 + 2) L) := by
  obtain ⟨a1, a2, a3, a4⟩ := h.ra
  obtain ⟨b1, b2, b3, b4⟩ := h.rb
  have a1' : la ≤ x.f0 := a1
  have a2' : x.f0 ≤ x.f1 := a2
  have b1' : lb ≤ y.f0 := b1
  have b2' : y.f0 ≤ y.f1 := b2
  have h0 := h.la0
  have h1 := h.lb0
  have hno : ¬ (x.f0 ≤ y.f1 ∧ y.f0 ≤ x.f1) := by unfold mx mn at hft; omega
  have ga : ∀ p, Mem (prs a) p → x.f1 + 2 ≤ p := fun p hp => (Rise.mem_ge a4 hp).1
  have gb : ∀ p, Mem (prs b) p → y.f1 + 2 ≤ p := fun p hp => (Rise.mem_ge b4 hp).1
  refine ⟨fun hlt => ⟨a4, h.rb, by omega, h1, h.ro, h.far, fun p k1 k2 => h.ge p ((mem_prs_cons _ _ _).2 (.inr k1)) k2, fun p => ?_⟩, fun hlt => ⟨h.ra, b4, h0, by omega, h.ro, h.far, fun p k1 k2 => h.ge p k1 ((mem_prs_cons _ _ _).2 (.inr k2)), fun p => ?_⟩⟩
  · rw [h.mem p, mem_prs_cons, mem_prs_cons]
    have g2 := gb p
    constructor
    · rintro (k | ⟨k1 | k1, k2⟩)
      · exact .inl k
      · rcases k2 with k2 | k2
        · omega
        · have := g2 k2; omega
      · exact .inr ⟨k1, k2⟩
    · rintro (k | ⟨k1, k2⟩)
      · exact .inl k
      · exact .inr ⟨.inr k1, k2⟩
  · rw [h.mem p, mem_prs_cons, mem_prs_cons]
    have g1 := ga p
    constructor
    · rintro (k | ⟨k1, k2 | k2⟩)
      · exact .inl k
      · rcases k1 with k1 | k1
        · omega
        · have := g1 k1; omega
      · exact .inr ⟨k1, k2⟩
    · rintro (k | ⟨k1, k2⟩)
      · exact .inl k
      · exact .inr ⟨k1, .inr k2⟩

theorem rd0_cons (x : Sn) (l : List Sn) : rd_T50 (x :: l) 0 = x := rfl
theorem crossed_l : ∀ (d : Nat) (a b out : List Sn) (W : Int → Prop) (la lb L : Int), a.length + b.length ≤ d → out.length + (a.length + b.length) ≤ 16777216 → CrInv W a b out la lb L →
    ∃ r, Ev (fun k => span_crossed.l0 k a b out) r ∧ Rise 0 (prs r) ∧ (∀ p, Mem (prs r) p ↔ W p) ∧ r.length ≤ out.length + (a.length + b.length) := by
  intro d
  induction d with
  | zero =>
    intro a b out W la lb L hd hl h
    obtain rfl : a = [] := List.eq_nil_of_length_eq_zero (by omega)
    refine ⟨out, Ev.step (f := fun k => span_crossed.j1 k [] b out false) (fun k => by simp only [span_crossed.l0]; rw [if_neg (by simp)]) (Ev.step (f := fun _ => some out) (fun k => by simp only [span_crossed.j1]; rw [if_neg (by decide)]) (Ev.now _)), h.ro, fun p => ?_, by omega⟩
    rw [h.mem p]
    exact ⟨fun k => .inl k, fun k => k.elim id (fun k => absurd k.1 (mem_nil p))⟩
  | succ d ih =>
    intro a b out W la lb L hd hl h
    cases a with
    | nil =>
      refine ⟨out, Ev.step (f := fun k => span_crossed.j1 k [] b out false) (fun k => by simp only [span_crossed.l0]; rw [if_neg (by simp)]) (Ev.step (f := fun _ => some out) (fun k => by simp only [span_crossed.j1]; rw [if_neg (by decide)]) (Ev.now _)), h.ro, fun p => ?_, by omega⟩
      rw [h.mem p]
      exact ⟨fun k => .inl k, fun k => k.elim id (fun k => absurd k.1 (mem_nil p))⟩
    | cons x a =>
      cases b with
      | nil =>
        refine ⟨out, Ev.step (f := fun k => span_crossed.j1 k (x :: a) [] out false) (fun k => by simp only [span_crossed.l0]; rw [if_pos (by simp only [List.length_cons]; omega)]; simp) (Ev.step (f := fun _ => some out) (fun k => by simp only [span_crossed.j1]; rw [if_neg (by decide)]) (Ev.now _)), h.ro, fun p => ?_, by omega⟩
        rw [h.mem p]
        exact ⟨fun k => .inl k, fun k => k.elim id (fun k => absurd k.2 (mem_nil p))⟩
      | cons y b =>
        simp only [List.length_cons] at hd hl
        have i1 : ((x :: a).length : Int) > 0 := by simp only [List.length_cons]; omega
        have i2 : ((y :: b).length : Int) > 0 := by simp only [List.length_cons]; omega
        have i1' : (0 : Int) < ((x :: a).length : Int) := i1
        have i2' : (0 : Int) < ((y :: b).length : Int) := i2
        have i3 : (1 : Int) ≤ ((x :: a).length : Int) := by omega
        have i4 : (1 : Int) ≤ ((y :: b).length : Int) := by omega
        have i5 : out.length < 17592186044416 := by omega
        have go : ∀ (r : List Sn), Ev (fun k => span_crossed.j1 k (x :: a) (y :: b) out true) r → Ev (fun k => span_crossed.l0 k (x :: a) (y :: b) out) r := fun r hr =>
          Ev.step (fun k => by simp only [span_crossed.l0]; rw [if_pos i1, decide_eq_true i2]) hr
        by_cases hft : mx x.f0 y.f0 ≤ mn x.f1 y.f1
        · have hp := h.piece rfl rfl hft
          by_cases hlt : x.f1 < y.f1
          · obtain ⟨r, r1, r2, r3, r4⟩ := ih _ _ _ _ _ _ _ (by simp only [List.length_cons]; omega) (by simp only [List.length_append, List.length_cons, List.length_nil]; omega) (hp.1 hlt)
            refine ⟨r, go r (Ev.step (fun k => ?_) r1), r2, r3, ?_⟩
            · simp only [span_crossed.j1]
              rw [rd0_cons, rd0_cons, if_pos trivial, if_pos i1', if_pos i2', if_pos hft, if_pos i5]
              simp only [Option.bind_some]
              rw [if_pos hlt, if_pos i3]
              rfl
            · simp only [List.length_append, List.length_cons, List.length_nil] at r4 ⊢; omega
          · obtain ⟨r, r1, r2, r3, r4⟩ := ih _ _ _ _ _ _ _ (by simp only [List.length_cons]; omega) (by simp only [List.length_append, List.length_cons, List.length_nil]; omega) (hp.2 hlt)
            refine ⟨r, go r (Ev.step (fun k => ?_) r1), r2, r3, ?_⟩
            · simp only [span_crossed.j1]
              rw [rd0_cons, rd0_cons, if_pos trivial, if_pos i1', if_pos i2', if_pos hft, if_pos i5]
              simp only [Option.bind_some]
              rw [if_neg hlt, if_pos i4]
              rfl
            · simp only [List.length_append, List.length_cons, List.length_nil] at r4 ⊢; omega
        · have hp := h.pass hft
          by_cases hlt : x.f1 < y.f1
          · obtain ⟨r, r1, r2, r3, r4⟩ := ih _ _ _ _ _ _ _ (by simp only [List.length_cons]; omega) (by simp only [List.length_cons]; omega) (hp.1 hlt)
            refine ⟨r, go r (Ev.step (fun k => ?_) r1), r2, r3, ?_⟩
            · simp only [span_crossed.j1]
              rw [rd0_cons, rd0_cons, if_pos trivial, if_pos i1', if_pos i2', if_neg hft, if_pos hlt, if_pos i3]
              rfl
            · simp only [List.length_cons] at r4 ⊢; omega
          · obtain ⟨r, r1, r2, r3, r4⟩ := ih _ _ _ _ _ _ _ (by simp only [List.length_cons]; omega) (by simp only [List.length_cons]; omega) (hp.2 hlt)
            refine ⟨r, go r (Ev.step (fun k => ?_) r1), r2, r3, ?_⟩
            · simp only [span_crossed.j1]
              rw [rd0_cons, rd0_cons, if_pos trivial, if_pos i1', if_pos i2', if_neg hft, if_neg hlt, if_pos i4]
              rfl
            · simp only [List.length_cons] at r4 ⊢; omega
theorem crossed_ev {a b : List Sn} (ha : Rise 0 (prs a)) (hb : Rise 0 (prs b)) (hl : a.length + b.length ≤ 16777216) :
    ∃ r, Ev (fun k => span_crossed.f k a b) r ∧ Rise 0 (prs r) ∧ (∀ p, Mem (prs r) p ↔ (Mem (prs a) p ∧ Mem (prs b) p)) ∧ r.length ≤ a.length + b.length := by
  obtain ⟨r, r1, r2, r3, r4⟩ := crossed_l (a.length + b.length) a b [] (fun p => Mem (prs a) p ∧ Mem (prs b) p) 0 0 0 (Nat.le_refl _) (by simpa using hl) ⟨ha, hb, Int.le_refl _, Int.le_refl _, trivial, (fun z hz => by cases hz), (fun p h1 h2 => (ha.mem_ge h1).1), fun p => ⟨fun k => .inr k, fun k => k.elim (fun k => absurd k (mem_nil p)) id⟩⟩
  exact ⟨r, r1, r2, r3, by simpa using r4⟩

theorem others_l {l : List Sn} (hr : Rise 0 (prs l)) (hl : l.length ≤ 16777216) : ∀ (d i : Nat) (out : List Sn) (nx : Int), i + d = l.length → out.length ≤ i → 0 ≤ nx → nx ≤ 1114112 → (∀ z ∈ out, z.f1 + 1 < nx) → (∀ z ∈ (l.drop i), nx ≤ z.f0) → (0 < i → ∀ z ∈ (l.drop i), nx < z.f0) →
    Rise nx (prs (l.drop i)) → Upto (fun p => ¬ Mem (prs l) p) (prs out) nx → (∀ p, nx ≤ p → (Mem (prs l) p ↔ Mem (prs (l.drop i)) p)) →
    ∃ r, Ev (fun k => span_others.l0 k out nx l (l.length : Int) (i : Int)) r ∧ Upto (fun p => ¬ Mem (prs l) p) (prs r) 1114112 ∧ r.length ≤ l.length + 1 := by
  intro d
  induction d with
  | zero =>
    intro i out nx hi hol h0 h1 hz hd hd2 hrd hu hm
    have hdn : l.drop i = [] := List.drop_of_length_le (by omega)
    have hnone : ∀ p, nx ≤ p → ¬ Mem (prs l) p := fun p hp hmm => by
      rw [hm p hp, hdn] at hmm
      exact mem_nil p hmm
    by_cases hc : nx ≤ 1114111
    · refine ⟨out ++ [⟨nx, 1114111⟩], Ev.step (f := fun _ => some _) (fun k => ?_) (Ev.now _), ?_, by simp only [List.length_append, List.length_cons, List.length_nil]; omega⟩
      · simp only [span_others.l0]
        rw [if_neg (by omega), if_pos hc, if_pos (by omega)]
      · rw [prs_append]
        exact hu.push (te := 1114111) h0 hc (by omega) (fun p k1 k2 => hnone p k1) (fun z hzz => by
          obtain ⟨y, hy, rfl⟩ := getLast_prs hzz
          have := hz y hy
          show y.f1 + 1 ≠ nx
          omega)
    · obtain rfl : nx = 1114112 := by omega
      refine ⟨out, Ev.step (f := fun _ => some _) (fun k => ?_) (Ev.now _), hu, by omega⟩
      simp only [span_others.l0]
      rw [if_neg (by omega), if_neg hc]
  | succ d ih =>
    intro i out nx hi hol h0 h1 hz hd hd2 hrd hu hm
    have hlt : i < l.length := by omega
    have hdc : l.drop i = l[i] :: l.drop (i + 1) := List.drop_eq_getElem_cons hlt
    have hx := rdp_eq l i hlt
    rw [hdc] at hd hrd hm hd2
    have hge := hd _ List.mem_cons_self
    have hgt := fun hp => hd2 hp _ List.mem_cons_self
    generalize l[i] = x at hdc hx hd hrd hm hd2 hge hgt
    obtain ⟨k1, k2, k3, k4⟩ := hrd
    have k2' : x.f0 ≤ x.f1 := k2
    have k3' : x.f1 ≤ 1114111 := k3
    have hmx : ∀ p, nx ≤ p → (Mem (prs l) p ↔ (x.f0 ≤ p ∧ p ≤ x.f1) ∨ Mem (prs (l.drop (i + 1))) p) := fun p hp => by rw [hm p hp, mem_prs_cons]
    have hgn : ∀ p, Mem (prs (l.drop (i + 1))) p → x.f1 + 2 ≤ p := fun p hp => (Rise.mem_ge k4 hp).1
    have hin : ∀ p, x.f0 ≤ p → p ≤ x.f1 → ¬ ¬ Mem (prs l) p := fun p a b hn => hn ((hmx p (by omega)).2 (.inl ⟨a, b⟩))
    have W1 := Aside0.mk (w64_succ i l.length hlt (by omega))
    have W2 := Aside0.mk (w32_succ (x := x.f1) (by omega) k3')
    have W3 := Aside0.mk (w32_pred (x := x.f0) (by omega) (by omega))
    have i1 : (i : Int) < (l.length : Int) := by omega
    have i2 : (0 : Int) ≤ (i : Int) := by omega
    have i3 : out.length < 17592186044416 := by omega
    have hrest : ∀ (o : List Sn), o.length ≤ i + 1 → (∀ z ∈ o, z.f1 + 1 < x.f1 + 1) → Upto (fun p => ¬ Mem (prs l) p) (prs o) (x.f1 + 1) → ∃ r, Ev (fun k => span_others.l0 k o (x.f1 + 1) l (l.length : Int) ((i + 1 : Nat) : Int)) r ∧ Upto (fun p => ¬ Mem (prs l) p) (prs r) 1114112 ∧ r.length ≤ l.length + 1 := fun o ho hzo huo =>
      ih (i + 1) o (x.f1 + 1) (by omega) ho (by omega) (by omega) hzo (fun z hz => by have := (Rise.ge k4 (pr z) (List.mem_map_of_mem hz)).1; have h' : x.f1 + 2 ≤ z.f0 := this; omega)
        (fun _ z hz => by have := (Rise.ge k4 (pr z) (List.mem_map_of_mem hz)).1; have h' : x.f1 + 2 ≤ z.f0 := this; omega) (Rise.weaken k4 (by show x.f1 + 1 ≤ x.f1 + 2; omega)) huo (fun p hp => by
          rw [hmx p (by omega)]
          exact ⟨fun k => k.elim (fun k => by omega) id, fun k => .inr k⟩)
    by_cases hc : x.f0 > nx
    · have hu1 := hu.push (te := x.f0 - 1) h0 (by omega) (by omega) (fun p a b hmm => by
        rcases (hmx p a).1 hmm with k | k
        · omega
        · have := hgn p k; omega) (fun z hzz => by
        obtain ⟨y, hy, rfl⟩ := getLast_prs hzz
        have := hz y hy
        show y.f1 + 1 ≠ nx
        omega)
      have hu2 := hu1.skip (te := x.f1) (by omega) (fun p a b => hin p (by omega) b)
      obtain ⟨r, r1, r2⟩ := hrest (out ++ [⟨nx, x.f0 - 1⟩]) (by simp only [List.length_append, List.length_cons, List.length_nil]; omega) (fun z hzz => by
        rcases List.mem_append.1 hzz with hzz | hzz
        · have := hz z hzz; omega
        · rw [List.mem_singleton.1 hzz]; show x.f0 - 1 + 1 < x.f1 + 1; omega) (by rw [prs_append]; exact hu2)
      refine ⟨r, Ev.step (fun k => ?_) r1, r2⟩
      simp only [span_others.l0]
      rw [hx, W1.out, W2.out, W3.out, if_pos i1, if_pos i2, if_pos i1, if_pos hc, if_pos i3]
    · have he : x.f0 = nx := by omega
      have hu2 := hu.skip (te := x.f1) (by omega) (fun p a b => hin p (by omega) b)
      obtain ⟨r, r1, r2⟩ := hrest out (by omega) (fun z hzz => by have := hz z hzz; omega) hu2
      refine ⟨r, Ev.step (fun k => ?_) r1, r2⟩
      simp only [span_others.l0]
      rw [hx, W1.out, W2.out, if_pos i1, if_pos i2, if_pos i1, if_neg hc]
theorem others_ev {l : List Sn} (hr : Rise 0 (prs l)) (hl : l.length ≤ 16777216) :
    ∃ r, Ev (fun k => span_others.f k l) r ∧ Rise 0 (prs r) ∧ (∀ p, Mem (prs r) p ↔ (0 ≤ p ∧ p ≤ 1114111 ∧ ¬ Mem (prs l) p)) ∧ r.length ≤ l.length + 1 := by
  obtain ⟨r, r1, r2, r3⟩ := others_l hr hl l.length 0 [] 0 (by omega) (Nat.le_refl _) (Int.le_refl _) (by omega) (fun z hz => by cases hz) (fun z hz => (Rise.ge hr (pr z) (List.mem_map_of_mem hz)).1) (fun h => absurd h (Nat.lt_irrefl 0)) hr (Upto.nil _) (fun p _ => Iff.rfl)
  exact ⟨r, r1, r2.whole.1, r2.whole.2, r3⟩

theorem cross_ev (a b : List Sn) (hl : a.length + b.length ≤ 16777216) :
    (isB (prs a) = true ∧ isB (prs b) = true ∧ ∃ r, Ev (fun k => span_Cross.f k a b) (fitP r) ∧ Rise 0 (prs r) ∧ (∀ p, Mem (prs r) p ↔ (Mem (prs a) p ∧ Mem (prs b) p)) ∧ r.length ≤ a.length + b.length) ∨
    ((isB (prs a) && isB (prs b)) = false ∧ Ev (fun k => span_Cross.f k a b) ([], 70)) := by
  have h1 := isP_ev a (by omega)
  have h2 := isP_ev b (by omega)
  have bad : Ev (fun k => span_Cross.j0 k a b true) ([], 70) := Ev.step (f := fun _ => some _) (fun k => by simp only [span_Cross.j0]; rw [if_pos trivial]) (Ev.now _)
  unfold span_Cross.f
  cases e1 : isB (prs a) with
  | false =>
    rw [e1] at h1
    refine .inr ⟨rfl, Ev.bind h1 ?_⟩
    exact Ev.ite_f bad
  | true =>
    rw [e1] at h1
    cases e2 : isB (prs b) with
    | false =>
      rw [e2] at h2
      refine .inr ⟨rfl, Ev.bind h1 ?_⟩
      refine Ev.ite_t ?_
      refine Ev.bind h2 ?_
      exact bad
    | true =>
      rw [e2] at h2
      obtain ⟨r, r1, r2, r3, r4⟩ := crossed_ev (isB_iff.1 e1).1 (isB_iff.1 e2).1 hl
      refine .inl ⟨rfl, rfl, r, ?_, r2, r3, r4⟩
      refine Ev.bind h1 ?_
      refine Ev.ite_t ?_
      refine Ev.bind h2 ?_
      refine Ev.step (f := fun k => (span_crossed.f k a b).bind fun t => (span_fit.f t).bind fun b => some (b.1, b.2)) (fun k => by simp [span_Cross.j0]) (Ev.bind r1 ?_)
      exact fit_ev r
theorem minus_ev (a b : List Sn) (hl : a.length + b.length ≤ 8388608) :
    (isB (prs a) = true ∧ isB (prs b) = true ∧ ∃ r, Ev (fun k => span_Minus.f k a b) (fitP r) ∧ Rise 0 (prs r) ∧ (∀ p, Mem (prs r) p ↔ (Mem (prs a) p ∧ ¬ Mem (prs b) p)) ∧ r.length ≤ a.length + b.length + 1) ∨
    ((isB (prs a) && isB (prs b)) = false ∧ Ev (fun k => span_Minus.f k a b) ([], 70)) := by
  have h1 := isP_ev a (by omega)
  have h2 := isP_ev b (by omega)
  have bad : Ev (fun k => span_Minus.j0 k a b true) ([], 70) := Ev.step (f := fun _ => some _) (fun k => by simp only [span_Minus.j0]; rw [if_pos trivial]) (Ev.now _)
  unfold span_Minus.f
  cases e1 : isB (prs a) with
  | false =>
    rw [e1] at h1
    refine .inr ⟨rfl, Ev.bind h1 ?_⟩
    exact Ev.ite_f bad
  | true =>
    rw [e1] at h1
    cases e2 : isB (prs b) with
    | false =>
      rw [e2] at h2
      refine .inr ⟨rfl, Ev.bind h1 ?_⟩
      refine Ev.ite_t ?_
      refine Ev.bind h2 ?_
      exact bad
    | true =>
      rw [e2] at h2
      obtain ⟨o, o1, o2, o3, o4⟩ := others_ev (isB_iff.1 e2).1 (by omega)
      obtain ⟨r, r1, r2, r3, r4⟩ := crossed_ev (isB_iff.1 e1).1 o2 (by omega)
      refine .inl ⟨rfl, rfl, r, ?_, r2, fun p => ?_, by omega⟩
      · refine Ev.bind h1 ?_
        refine Ev.ite_t ?_
        refine Ev.bind h2 ?_
        refine Ev.step (f := fun k => (span_others.f k b).bind fun t => (span_crossed.f k a t).bind fun t => (span_fit.f t).bind fun b => some (b.1, b.2)) (fun k => by simp [span_Minus.j0]) (Ev.bind o1 ?_)
        refine Ev.bind r1 ?_
        exact fit_ev r
      · rw [r3 p, o3 p]
        constructor
        · exact fun k => ⟨k.1, k.2.2.2⟩
        · exact fun k => ⟨k.1, ((isB_iff.1 e1).1.mem_ge k.1).1, ((isB_iff.1 e1).1.mem_ge k.1).2, k.2⟩
theorem other_ev (a : List Sn) (hl : a.length ≤ 8388608) :
    (isB (prs a) = true ∧ ∃ r, Ev (fun k => span_Other.f k a) (fitP r) ∧ Rise 0 (prs r) ∧ (∀ p, Mem (prs r) p ↔ (0 ≤ p ∧ p ≤ 1114111 ∧ ¬ Mem (prs a) p)) ∧ r.length ≤ a.length + 1) ∨
    (isB (prs a) = false ∧ Ev (fun k => span_Other.f k a) ([], 70)) := by
  have h1 := isP_ev a (by omega)
  unfold span_Other.f
  cases e1 : isB (prs a) with
  | false =>
    rw [e1] at h1
    refine .inr ⟨rfl, Ev.bind h1 ?_⟩
    exact Ev.ite_f (Ev.now _)
  | true =>
    rw [e1] at h1
    obtain ⟨o, o1, o2, o3, o4⟩ := others_ev (isB_iff.1 e1).1 (by omega)
    refine .inl ⟨rfl, o, Ev.bind h1 ?_, o2, o3, o4⟩
    refine Ev.ite_t ?_
    refine Ev.bind o1 ?_
    exact fit_ev o

/-! ### Union -/
def allIs (L : List (List Sn)) : Bool := L.all fun l => isB (prs l)
/-- The place of the first list that is no set; none: where L ends. -/
def badI : List (List Sn) → Nat
  | [] => 0
  | l :: L => if isB (prs l) = true then badI L + 1 else 0
theorem union_l {L : List (List Sn)} (hL : L.length ≤ 4) : ∀ (d i : Nat) (acc : List Sn), i + d = L.length → (∀ l ∈ L, l.length ≤ 1048576) → acc.length ≤ 65536 * i → mayL acc = true →
    (allIs (L.drop i) = true ∧ ∃ r, Ev (fun k => span_Union.l0 k acc L (L.length : Int) (i : Int)) ((fitP r).1, 0, (fitP r).2) ∧ Rise 0 (prs r) ∧ (∀ p, Mem (prs r) p ↔ (Mem (prs acc) p ∨ ∃ l ∈ L.drop i, Mem (prs l) p)) ∧ r.length ≤ 65536 * L.length) ∨
    (allIs (L.drop i) = false ∧ Ev (fun k => span_Union.l0 k acc L (L.length : Int) (i : Int)) ([], ((i + badI (L.drop i) : Nat) : Int), 70)) := by
  intro d
  induction d with
  | zero =>
    intro i acc hi hb ha hm
    have hdn : L.drop i = [] := List.drop_of_length_le (by omega)
    obtain ⟨r, r1, r2, r3, r4⟩ := span_joined_f (l := acc) (by omega) hm
    refine .inl ⟨by rw [hdn]; rfl, r, Ev.step (f := fun _ => some _) (fun k => ?_) (Ev.now _), r2, fun p => ?_, by omega⟩
    · simp only [span_Union.l0]
      rw [if_neg (by omega), r1]
      simp only [Option.bind_some]
      rw [fit_f]
      rfl
    · rw [r3 p, hdn]
      exact ⟨fun k => .inl k, fun k => k.elim id (fun ⟨_, h, _⟩ => by cases h)⟩
  | succ d ih =>
    intro i acc hi hb ha hm
    have hlt : i < L.length := by omega
    have hdc : L.drop i = L[i] :: L.drop (i + 1) := List.drop_eq_getElem_cons hlt
    have hx : rd_L4 L (i : Int) = L[i] := by
      unfold rd_L4
      rw [Int.toNat_natCast, List.getD_eq_getElem?_getD, List.getElem?_eq_getElem hlt]
      rfl
    have hbl := hb _ (List.getElem_mem hlt)
    have h1 := isP_ev L[i] (by omega)
    have i1 : (i : Int) < (L.length : Int) := by omega
    have i2 : (0 : Int) ≤ (i : Int) := by omega
    have W1 := Aside0.mk (w64_succ i L.length hlt (by omega))
    have hall : allIs (L.drop i) = (isB (prs L[i]) && allIs (L.drop (i + 1))) := by rw [hdc]; rfl
    have hbad : badI (L.drop i) = if isB (prs L[i]) = true then badI (L.drop (i + 1)) + 1 else 0 := by rw [hdc]; rfl
    rw [hall, hbad]
    cases e1 : isB (prs L[i]) with
    | false =>
      rw [e1] at h1
      refine .inr ⟨rfl, Ev.step (fun k => ?_) (Ev.bind (f := fun k t => if t = true then span_Union.l0 k (acc ++ L[i]) L (L.length : Int) ((i + 1 : Nat) : Int) else some ([], (i : Int), 70)) h1 (Ev.congr (fun k => by rw [if_neg (by decide)]; rfl) (Ev.now _)))⟩
      simp only [span_Union.l0]
      rw [if_pos i1, if_pos i2, if_pos i1, hx, W1.out]
      have i3 : acc.length + L[i].length < 17592186044416 := by omega
      rw [if_pos i3]
    | true =>
      rw [e1] at h1
      obtain ⟨hm2, hl2⟩ := isB_may e1
      have i3 : acc.length + L[i].length < 17592186044416 := by omega
      have hmm : mayL (acc ++ L[i]) = true := by unfold mayL at hm hm2 ⊢; rw [List.all_append, hm, hm2]; rfl
      have step : ∀ v, Ev (fun k => span_Union.l0 k (acc ++ L[i]) L (L.length : Int) ((i + 1 : Nat) : Int)) v → Ev (fun k => span_Union.l0 k acc L (L.length : Int) (i : Int)) v := fun v hv =>
        Ev.step (fun k => by simp only [span_Union.l0]; rw [if_pos i1, if_pos i2, if_pos i1, hx, W1.out, if_pos i3]) (Ev.bind (f := fun k t => if t = true then span_Union.l0 k (acc ++ L[i]) L (L.length : Int) ((i + 1 : Nat) : Int) else some ([], (i : Int), 70)) h1 (Ev.ite_t hv))
      rcases ih (i + 1) (acc ++ L[i]) (by omega) hb (by rw [List.length_append]; omega) hmm with ⟨k1, r, k2, k3, k4, k5⟩ | ⟨k1, k2⟩
      · refine .inl ⟨by rw [k1]; rfl, r, step _ k2, k3, fun p => ?_, k5⟩
        rw [k4 p, prs_append, mem_append, hdc]
        constructor
        · rintro ((h | h) | ⟨l, hl, h⟩)
          · exact .inl h
          · exact .inr ⟨_, List.mem_cons_self, h⟩
          · exact .inr ⟨l, List.mem_cons_of_mem _ hl, h⟩
        · rintro (h | ⟨l, hl, h⟩)
          · exact .inl (.inl h)
          · rcases List.mem_cons.1 hl with rfl | hl
            · exact .inl (.inr h)
            · exact .inr ⟨l, hl, h⟩
      · refine .inr ⟨by rw [k1]; rfl, step _ ?_⟩
        rw [if_pos rfl, show i + (badI (L.drop (i + 1)) + 1) = i + 1 + badI (L.drop (i + 1)) by omega]
        exact k2
theorem union_ev (L : List (List Sn)) (hL : L.length ≤ 4) (hb : ∀ l ∈ L, l.length ≤ 1048576) :
    (allIs L = true ∧ ∃ r, Ev (fun k => span_Union.f k L) ((fitP r).1, 0, (fitP r).2) ∧ Rise 0 (prs r) ∧ (∀ p, Mem (prs r) p ↔ ∃ l ∈ L, Mem (prs l) p) ∧ r.length ≤ 65536 * L.length) ∨
    (allIs L = false ∧ Ev (fun k => span_Union.f k L) ([], (badI L : Int), 70)) := by
  rcases union_l hL L.length 0 [] (by omega) hb (by simp) rfl with ⟨k1, r, k2, k3, k4, k5⟩ | ⟨k1, k2⟩
  · exact .inl ⟨k1, r, k2, k3, fun p => (k4 p).trans ⟨fun h => h.elim (fun h => absurd h (mem_nil p)) id, fun h => .inr h⟩, k5⟩
  · refine .inr ⟨k1, ?_⟩
    rw [List.drop_zero, Nat.zero_add] at k2
    exact k2
theorem refused_ev (L : List (List Sn)) (hL : L.length ≤ 4) (hb : ∀ l ∈ L, l.length ≤ 1048576) : Ev (fun k => posternlaw07_refused.f k L) (if allIs L = true then (0, false) else ((badI L : Int), true)) := by
  have : ∀ d i, i + d = L.length → Ev (fun k => posternlaw07_refused.l0 k L (i : Int)) (if allIs (L.drop i) = true then (0, false) else (((i + badI (L.drop i) : Nat) : Int), true)) := by
    intro d
    induction d with
    | zero =>
      intro i hi
      have hdn : L.drop i = [] := List.drop_of_length_le (by omega)
      refine Ev.step (f := fun _ => some _) (fun k => ?_) (Ev.now _)
      simp only [posternlaw07_refused.l0]
      rw [if_neg (by omega), hdn]
      rfl
    | succ d ih =>
      intro i hi
      have hlt : i < L.length := by omega
      have hdc : L.drop i = L[i] :: L.drop (i + 1) := List.drop_eq_getElem_cons hlt
      have hx : rd_L4 L (i : Int) = L[i] := by
        unfold rd_L4
        rw [Int.toNat_natCast, List.getD_eq_getElem?_getD, List.getElem?_eq_getElem hlt]
        rfl
      have hbl := hb _ (List.getElem_mem hlt)
      have h1 := isQ_ev (L[i].map toR) (by rw [List.length_map]; omega)
      rw [qrs_toR] at h1
      have h0 := given_ev L[i] (by omega)
      have i1 : (i : Int) < (L.length : Int) := by omega
      have i2 : (0 : Int) ≤ (i : Int) := by omega
      have W1 := Aside0.mk (w64_succ i L.length hlt (by omega))
      have hall : allIs (L.drop i) = (isB (prs L[i]) && allIs (L.drop (i + 1))) := by rw [hdc]; rfl
      have hbad : badI (L.drop i) = if isB (prs L[i]) = true then badI (L.drop (i + 1)) + 1 else 0 := by rw [hdc]; rfl
      rw [hall, hbad]
      refine Ev.step (f := fun k => (posternlaw07_given.f k L[i]).bind fun t => (posternref07_Is.f k t).bind fun u => if u = true then posternlaw07_refused.l0 k L ((i + 1 : Nat) : Int) else some ((i : Int), true)) (fun k => ?_) (Ev.bind h0 (Ev.bind h1 ?_))
      · simp only [posternlaw07_refused.l0]
        rw [if_pos i1, if_pos i2, hx, W1.out]
      · cases e1 : isB (prs L[i]) with
        | false =>
          rw [Bool.false_and, if_neg (by decide), if_neg (by decide)]
          exact Ev.ite_f (Ev.now _)
        | true =>
          rw [Bool.true_and, if_pos rfl, show i + (badI (L.drop (i + 1)) + 1) = i + 1 + badI (L.drop (i + 1)) by omega]
          exact Ev.ite_t (ih (i + 1) (by omega))
  have h := this L.length 0 (by omega)
  rw [List.drop_zero, Nat.zero_add] at h
  exact h
theorem told_ev (r l : List Sn) (e : Int) (he : (l, e) = fitP r) (hr : r.length ≤ 16777216) : Ev (fun k => posternlaw07_told.f k l e (r.map toR)) true := by
  unfold fitP at he
  by_cases h : r.length > 65536
  · rw [if_pos h] at he
    simp only [Prod.mk.injEq] at he
    obtain ⟨rfl, rfl⟩ := he
    refine Ev.congr (fun k => ?_) (Ev.now _)
    unfold posternlaw07_told.f
    rw [if_pos (by rw [List.length_map]; omega), if_pos rfl]
    rfl
  · rw [if_neg h] at he
    simp only [Prod.mk.injEq] at he
    obtain ⟨rfl, rfl⟩ := he
    have ha := alike_ev l (l.map toR) hr
    rw [decide_eq_true rfl] at ha
    refine Ev.congr (fun k => ?_) (Ev.bind (f := fun _ t => some t) ha (Ev.now _))
    unfold posternlaw07_told.f
    rw [if_neg (by rw [List.length_map]; omega), if_pos rfl]

end Go.Proofs.Ytkpdccegamcppaa.PSpan
