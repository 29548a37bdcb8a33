/- What is asked of a set of spans: Has, Count, At, Place, Next, of both; as plain lists. -/
import Derived.Test.YtkpdccegamcppaaXCallA
import Derived.Test.YtkpdccegamcppaaXCrs
import Derived.Test.YtkpdccegamcppaaPSpanx16
namespace Go.Proofs.Ytkpdccegamcppaa.PSpan
open Go.RowKit Go.Proofs.YtkpdccegamcppaaW.PrintWords Go.Proofs.YtkpdccegamcppaaW.PrintLast Go.Proofs.YtkpdccegamcppaaW.PrintMore Go.Proofs.Ytkpdccegamcppaa.SpanP
set_option linter.unusedVariables false
set_option linter.unusedSimpArgs false

theorem rise_cons {low : Int} {x : Sn} {l : List Sn} (h : Rise low (prs (x :: l))) : low ≤ x.f0 ∧ x.f0 ≤ x.f1 ∧ x.f1 ≤ 1114111 ∧ Rise (x.f1 + 2) (prs l) := h
theorem wd_eq {a b : Int} (h0 : 0 ≤ a) (h1 : a ≤ b) (h2 : b ≤ 1114111) : wrap64 ((wrap64 (wrap32 (b - a))) + 1) = b - a + 1 := by
  rw [show wrap32 (b - a) = b - a from by unfold wrap32; omega, show wrap64 (b - a) = b - a from by unfold wrap64; omega]
  unfold wrap64; omega
theorem rdp_toR (l : List Sn) (i : Nat) (h : i < l.length) : rd_T68 (l.map toR) (i : Int) = toR l[i] := by rw [rdq_eq _ i (by rw [List.length_map]; exact h), List.getElem_map]
/-- How many code points. -/
def cntP : List Sn → Int
  | [] => 0
  | x :: l => (x.f1 - x.f0 + 1) + cntP l
theorem cntP_bd : ∀ {l : List Sn} {low : Int}, 0 ≤ low → low ≤ 1114112 → Rise low (prs l) → 0 ≤ cntP l ∧ cntP l + low ≤ 1114112
  | [], low, h, h1, _ => ⟨Int.le_refl _, by show 0 + low ≤ _; omega⟩
  | x :: l, low, h, h1, hr => by
    obtain ⟨a, b, c, d⟩ := rise_cons hr
    by_cases hc : x.f1 + 2 ≤ 1114112
    · have := cntP_bd (l := l) (by omega) hc d
      show 0 ≤ (x.f1 - x.f0 + 1) + cntP l ∧ (x.f1 - x.f0 + 1) + cntP l + low ≤ _
      omega
    · cases l with
      | nil =>
        show 0 ≤ (x.f1 - x.f0 + 1) + 0 ∧ (x.f1 - x.f0 + 1) + 0 + low ≤ _
        omega
      | cons y l =>
        obtain ⟨a2, b2, c2, d2⟩ := rise_cons d
        omega
theorem cntP_app : ∀ (a b : List Sn), cntP (a ++ b) = cntP a + cntP b
  | [], b => by show cntP b = 0 + cntP b; omega
  | x :: a, b => by
    have := cntP_app a b
    show (x.f1 - x.f0 + 1) + cntP (a ++ b) = (x.f1 - x.f0 + 1) + cntP a + cntP b
    omega
theorem count_l {l : List Sn} (hm : mayL l = true) (hl : l.length ≤ 16777216) (hb : ∀ i, 0 ≤ cntP (l.take i) ∧ cntP (l.take i) ≤ 1114112) :
    (∀ d i, i + d = l.length → Ev (fun k => span_Count.l0 k (cntP (l.take i)) l (l.length : Int) (i : Int)) (cntP l)) ∧
    (∀ d i, i + d = l.length → Ev (fun k => posternref07_Count.l0 k (l.map toR) (cntP (l.take i)) (i : Int)) (cntP l)) := by
  have hml : (l.map toR).length = l.length := List.length_map ..
  have key : ∀ i (hlt : i < l.length), cntP (l.take (i + 1)) = cntP (l.take i) + (l[i].f1 - l[i].f0 + 1) := fun i hlt => by
    rw [List.take_succ_eq_append_getElem hlt, cntP_app]
    show _ = _ + (l[i].f1 - l[i].f0 + 1)
    show _ + ((l[i].f1 - l[i].f0 + 1) + 0) = _
    omega
  constructor
  · intro d
    induction d with
    | zero =>
      intro i hi
      refine Ev.step (f := fun _ => some _) (fun k => ?_) (Ev.now _)
      simp only [span_Count.l0]
      rw [if_neg (by omega), List.take_of_length_le (by omega)]
    | succ d ih =>
      intro i hi
      have hlt : i < l.length := by omega
      have hx := may_at hm i hlt
      have W1 := Aside0.mk (w64_succ i l.length hlt (by omega))
      have W2 := Aside0.mk (wd_eq hx.1 hx.2.1 hx.2.2)
      have hk := key i hlt
      have hb1 := hb (i + 1)
      have W3 := Aside0.mk (show wrap64 (cntP (l.take i) + (l[i].f1 - l[i].f0 + 1)) = cntP (l.take (i + 1)) from by rw [← hk]; unfold wrap64; omega)
      refine Ev.step (fun k => ?_) (ih (i + 1) (by omega))
      simp only [span_Count.l0]
      rw [rdp_eq l i hlt, if_pos (by omega), if_pos (by omega), if_pos (by omega), W2.out, W3.out, W1.out]
  · intro d
    induction d with
    | zero =>
      intro i hi
      refine Ev.step (f := fun _ => some _) (fun k => ?_) (Ev.now _)
      simp only [posternref07_Count.l0]
      rw [if_neg (by omega), List.take_of_length_le (by omega)]
    | succ d ih =>
      intro i hi
      have hlt : i < l.length := by omega
      have hx := may_at hm i hlt
      have W1 := Aside0.mk (w64_succ i l.length hlt (by omega))
      have W2 := Aside0.mk (wd_eq hx.1 hx.2.1 hx.2.2)
      have hk := key i hlt
      have hb1 := hb (i + 1)
      have W3 := Aside0.mk (show wrap64 (cntP (l.take i) + (l[i].f1 - l[i].f0 + 1)) = cntP (l.take (i + 1)) from by rw [← hk]; unfold wrap64; omega)
      refine Ev.step (fun k => ?_) (ih (i + 1) (by omega))
      simp only [posternref07_Count.l0]
      rw [rdp_toR l i hlt, if_pos (by omega), if_pos (by omega), show (toR l[i]).f1 = l[i].f1 from rfl, show (toR l[i]).f0 = l[i].f0 from rfl, W2.out, W3.out, W1.out]
theorem cnt_take {l : List Sn} (h : Rise 0 (prs l)) (i : Nat) : 0 ≤ cntP (l.take i) ∧ cntP (l.take i) ≤ 1114112 := by
  have h2 : Rise 0 (prs (l.take i)) := by unfold prs; rw [List.map_take]; exact h.take i
  have := cntP_bd (Int.le_refl _) (by omega) h2
  omega
theorem count_ev (l : List Sn) (hl : l.length ≤ 16777216) : Ev (fun k => span_Count.f k l) (if isB (prs l) = true then cntP l else 0) := by
  have h1 := isP_ev l hl
  unfold span_Count.f
  cases e : isB (prs l) with
  | false =>
    rw [e] at h1
    exact Ev.bind h1 (Ev.ite_f (Ev.now _))
  | true =>
    rw [e] at h1
    have := (count_l (isB_may e).1 hl (cnt_take (isB_iff.1 e).1)).1 l.length 0 (by omega)
    refine Ev.bind h1 (Ev.ite_t ?_)
    exact this
theorem countQ_ev (l : List Sn) (hl : l.length ≤ 16777216) (h : isB (prs l) = true) : Ev (fun k => posternref07_Count.f k (l.map toR)) (cntP l) :=
  (count_l (isB_may h).1 hl (cnt_take (isB_iff.1 h).1)).2 l.length 0 (by omega)

/-- The i-th code point; none: -1. -/
def atP : List Sn → Int → Int
  | [], _ => -1
  | x :: l, i => if i < x.f1 - x.f0 + 1 then x.f0 + i else atP l (i - (x.f1 - x.f0 + 1))
theorem at_l {l : List Sn} (hm : mayL l = true) (hl : l.length ≤ 16777216) :
    (∀ d i (n : Int), i + d = l.length → 0 ≤ n → n ≤ 9223372036854775807 → Ev (fun k => span_At.l0 k n l (l.length : Int) (i : Int)) (atP (l.drop i) n)) ∧
    (∀ d i (n : Int), i + d = l.length → 0 ≤ n → n ≤ 9223372036854775807 → Ev (fun k => posternref07_At.l0 k (l.map toR) n (i : Int)) (atP (l.drop i) n)) := by
  have hml : (l.map toR).length = l.length := List.length_map ..
  constructor
  · intro d
    induction d with
    | zero =>
      intro i n hi h0 h1
      refine Ev.step (f := fun _ => some _) (fun k => ?_) (Ev.now _)
      simp only [span_At.l0]
      rw [if_neg (by omega), List.drop_of_length_le (by omega)]
      rfl
    | succ d ih =>
      intro i n hi h0 h1
      have hlt : i < l.length := by omega
      have hx := may_at hm i hlt
      have W1 := Aside0.mk (w64_succ i l.length hlt (by omega))
      have W2 := Aside0.mk (wd_eq hx.1 hx.2.1 hx.2.2)
      have hd : atP (l.drop i) n = if n < l[i].f1 - l[i].f0 + 1 then l[i].f0 + n else atP (l.drop (i + 1)) (n - (l[i].f1 - l[i].f0 + 1)) := by rw [List.drop_eq_getElem_cons hlt]; rfl
      rw [hd]
      by_cases hc : n < l[i].f1 - l[i].f0 + 1
      · have W3 := Aside0.mk (show wrap32 (l[i].f0 + wrap32 n) = l[i].f0 + n from by rw [show wrap32 n = n from by unfold wrap32; omega]; unfold wrap32; omega)
        rw [if_pos hc]
        refine Ev.step (f := fun _ => some _) (fun k => ?_) (Ev.now _)
        simp only [span_At.l0]
        rw [rdp_eq l i hlt, if_pos (by omega), if_pos (by omega), if_pos (by omega), W2.out, if_pos hc, W3.out]
      · have W3 := Aside0.mk (show wrap64 (n - (l[i].f1 - l[i].f0 + 1)) = n - (l[i].f1 - l[i].f0 + 1) from by unfold wrap64; omega)
        rw [if_neg hc]
        refine Ev.step (fun k => ?_) (ih (i + 1) (n - (l[i].f1 - l[i].f0 + 1)) (by omega) (by omega) (by omega))
        simp only [span_At.l0]
        rw [rdp_eq l i hlt, if_pos (by omega), if_pos (by omega), if_pos (by omega), W2.out, if_neg hc, W3.out, W1.out]
  · intro d
    induction d with
    | zero =>
      intro i n hi h0 h1
      refine Ev.step (f := fun _ => some _) (fun k => ?_) (Ev.now _)
      simp only [posternref07_At.l0]
      rw [if_neg (by omega), List.drop_of_length_le (by omega)]
      rfl
    | succ d ih =>
      intro i n hi h0 h1
      have hlt : i < l.length := by omega
      have hx := may_at hm i hlt
      have W1 := Aside0.mk (w64_succ i l.length hlt (by omega))
      have W2 := Aside0.mk (wd_eq hx.1 hx.2.1 hx.2.2)
      have hd : atP (l.drop i) n = if n < l[i].f1 - l[i].f0 + 1 then l[i].f0 + n else atP (l.drop (i + 1)) (n - (l[i].f1 - l[i].f0 + 1)) := by rw [List.drop_eq_getElem_cons hlt]; rfl
      rw [hd]
      by_cases hc : n < l[i].f1 - l[i].f0 + 1
      · have W3 := Aside0.mk (show wrap32 (l[i].f0 + wrap32 n) = l[i].f0 + n from by rw [show wrap32 n = n from by unfold wrap32; omega]; unfold wrap32; omega)
        rw [if_pos hc]
        refine Ev.step (f := fun _ => some _) (fun k => ?_) (Ev.now _)
        simp only [posternref07_At.l0]
        rw [rdp_toR l i hlt, show (toR l[i]).f1 = l[i].f1 from rfl, show (toR l[i]).f0 = l[i].f0 from rfl, if_pos (by omega), if_pos (by omega), W2.out, if_pos hc, W3.out]
      · have W3 := Aside0.mk (show wrap64 (n - (l[i].f1 - l[i].f0 + 1)) = n - (l[i].f1 - l[i].f0 + 1) from by unfold wrap64; omega)
        rw [if_neg hc]
        refine Ev.step (fun k => ?_) (ih (i + 1) (n - (l[i].f1 - l[i].f0 + 1)) (by omega) (by omega) (by omega))
        simp only [posternref07_At.l0]
        rw [rdp_toR l i hlt, show (toR l[i]).f1 = l[i].f1 from rfl, show (toR l[i]).f0 = l[i].f0 from rfl, if_pos (by omega), if_pos (by omega), W2.out, if_neg hc, W3.out, W1.out]
def atI (l : List Sn) (n : Int) : Int := if n < 0 then -1 else atP l n
theorem at_ev (l : List Sn) (hl : l.length ≤ 16777216) (n : Int) (hn : n ≤ 9223372036854775807) : Ev (fun k => span_At.f k l n) (if isB (prs l) = true then atI l n else -1) := by
  have h1 := isP_ev l hl
  unfold span_At.f
  cases e : isB (prs l) with
  | false =>
    rw [e] at h1
    refine Ev.bind h1 (Ev.ite_f ?_)
    exact Ev.step (f := fun _ => some _) (fun k => by simp only [span_At.j0]; rw [if_pos trivial]; rfl) (Ev.now _)
  | true =>
    rw [e] at h1
    refine Ev.bind h1 (Ev.ite_t ?_)
    unfold atI
    by_cases hc : n < 0
    · rw [if_pos rfl, if_pos hc, decide_eq_true hc]
      exact Ev.step (f := fun _ => some _) (fun k => by simp only [span_At.j0]; rw [if_pos trivial]) (Ev.now _)
    · rw [if_pos rfl, if_neg hc, decide_eq_false hc]
      have := (at_l (isB_may e).1 hl).1 l.length 0 n (by omega) (by omega) hn
      rw [List.drop_zero] at this
      exact Ev.step (fun k => by simp only [span_At.j0]; rw [if_neg (by decide)]; rfl) this
theorem atQ_ev (l : List Sn) (hl : l.length ≤ 16777216) (h : isB (prs l) = true) (n : Int) (hn : n ≤ 9223372036854775807) : Ev (fun k => posternref07_At.f k (l.map toR) n) (atI l n) := by
  unfold posternref07_At.f atI
  by_cases hc : n < 0
  · rw [if_pos hc]
    exact Ev.congr (fun k => by rw [if_pos hc]) (Ev.now _)
  · rw [if_neg hc]
    have := (at_l (isB_may h).1 hl).2 l.length 0 n (by omega) (by omega) hn
    rw [List.drop_zero] at this
    exact Ev.congr (fun k => by rw [if_neg hc]; rfl) this

/-! ### Has, Place, Next: by the first span that ends at a code point or behind it -/
theorem rise_to : ∀ {l : List Sn} {low : Int}, Rise low (prs l) → risesTo l = true
  | [], _, _ => rfl
  | x :: l, low, h => by
    obtain ⟨a, b, c, d⟩ := rise_cons h
    unfold risesTo
    rw [rise_to d, Bool.and_true, List.all_eq_true]
    intro y hy
    have := (d.ge (pr y) (List.mem_map_of_mem hy))
    have h1 : x.f1 + 2 ≤ y.f0 := this.1
    have h2 : y.f0 ≤ y.f1 := this.2.1
    exact decide_eq_true (by omega)
theorem find_f {l : List Sn} (h : Rise 0 (prs l)) (hl : l.length ≤ 16777216) (p : Int) : span_find.f l p = some ((idxP p l : Nat) : Int) := by
  unfold span_find.f
  rw [if_pos ⟨hl, rise_to h⟩]
/-- The span at the place, if there is one. -/
theorem idx_at : ∀ (l : List Sn) (p : Int), idxP p l < l.length → ∃ x, l[idxP p l]? = some x ∧ p ≤ x.f1 ∧ x ∈ l
  | [], p, h => by simp at h
  | x :: l, p, h => by
    by_cases hc : x.f1 < p
    · have e : idxP p (x :: l) = idxP p l + 1 := by rw [idxP, if_pos hc]
      rw [e] at h ⊢
      obtain ⟨y, h1, h2, h3⟩ := idx_at l p (by simp only [List.length_cons] at h; omega)
      exact ⟨y, by simpa using h1, h2, List.mem_cons_of_mem _ h3⟩
    · have e : idxP p (x :: l) = 0 := by rw [idxP, if_neg hc]
      rw [e]
      exact ⟨x, rfl, by omega, List.mem_cons_self⟩
def hasI (l : List Sn) (p : Int) : Bool := match l[idxP p l]? with
  | some x => decide (x.f0 ≤ p)
  | none => false
theorem hasI_iff : ∀ {l : List Sn} {low : Int}, Rise low (prs l) → ∀ p, hasI l p = hasB (prs l) p
  | [], _, _, p => rfl
  | x :: l, low, h, p => by
    obtain ⟨a, b, c, d⟩ := rise_cons h
    have ih := hasI_iff d p
    have hb : hasB (prs (x :: l)) p = (decide (x.f0 ≤ p ∧ p ≤ x.f1) || hasB (prs l) p) := rfl
    have hg : p ≤ x.f1 → hasB (prs l) p = false := fun hp => by
      rw [Bool.eq_false_iff]
      intro hh
      have := (d.mem_ge ((hasB_iff _ _).1 hh)).1
      omega
    by_cases hc : x.f1 < p
    · have e : idxP p (x :: l) = idxP p l + 1 := by rw [idxP, if_pos hc]
      have : hasI (x :: l) p = hasI l p := by unfold hasI; rw [e]; simp
      rw [this, ih, hb, decide_eq_false (by omega), Bool.false_or]
    · have e : idxP p (x :: l) = 0 := by rw [idxP, if_neg hc]
      have : hasI (x :: l) p = decide (x.f0 ≤ p) := by unfold hasI; rw [e]; rfl
      rw [this, hb, hg (by omega), Bool.or_false]
      congr 1
      rw [eq_iff_iff]
      constructor
      · intro h; exact ⟨h, by omega⟩
      · exact fun h => h.1
theorem has_evP (l : List Sn) (hl : l.length ≤ 16777216) (p : Int) : Ev (fun k => span_Has.f k l p) (isB (prs l) && hasB (prs l) p) := by
  have h1 := isP_ev l hl
  unfold span_Has.f
  cases e : isB (prs l) with
  | false =>
    rw [e] at h1
    exact Ev.bind h1 (Ev.ite_f (Ev.now _))
  | true =>
    rw [e] at h1
    have hr := (isB_iff.1 e).1
    refine Ev.bind h1 (Ev.ite_t ?_)
    rw [Bool.true_and, ← hasI_iff hr p]
    refine Ev.congr (fun k => ?_) (Ev.now _)
    rw [find_f hr hl]
    simp only [Option.bind_some]
    have hle := idxP_le p l
    by_cases hc : idxP p l < l.length
    · rw [if_pos (by omega), if_pos (by omega), rdp_eq l _ hc]
      unfold hasI
      rw [List.getElem?_eq_getElem hc]
    · rw [if_neg (by omega)]
      unfold hasI
      rw [List.getElem?_eq_none (by omega)]
/-- How many are below a code point. -/
def plcP (p : Int) : List Sn → Int
  | [] => 0
  | x :: l => (if x.f1 < p then x.f1 - x.f0 + 1 else if x.f0 < p then p - x.f0 else 0) + plcP p l
theorem plcP_bd : ∀ {l : List Sn} {low : Int} (p : Int), 0 ≤ low → Rise low (prs l) → 0 ≤ plcP p l ∧ plcP p l ≤ cntP l
  | [], _, _, _, _ => ⟨Int.le_refl _, Int.le_refl _⟩
  | x :: l, low, p, h0, h => by
    obtain ⟨a, b, c, d⟩ := rise_cons h
    have := plcP_bd (l := l) p (by omega) d
    unfold plcP cntP
    split
    · omega
    · split <;> omega
theorem plcP_zero : ∀ {l : List Sn} {low p : Int}, Rise low (prs l) → p ≤ low → plcP p l = 0
  | [], _, _, _, _ => rfl
  | x :: l, low, p, h, hp => by
    obtain ⟨a, b, c, d⟩ := rise_cons h
    have := plcP_zero d (p := p) (by omega)
    unfold plcP
    rw [if_neg (by omega), if_neg (by omega), this]
    rfl
/-- Those ahead of the place are counted whole. -/
theorem plc_idx : ∀ {l : List Sn} {low : Int} (p : Int), Rise low (prs l) → hasB (prs l) p = true → ∃ x, l[idxP p l]? = some x ∧ x.f0 ≤ p ∧ p ≤ x.f1 ∧ plcP p l = cntP (l.take (idxP p l)) + (p - x.f0)
  | [], _, p, _, h => by cases h
  | x :: l, low, p, hr, h => by
    obtain ⟨a, b, c, d⟩ := rise_cons hr
    have hb : hasB (prs (x :: l)) p = (decide (x.f0 ≤ p ∧ p ≤ x.f1) || hasB (prs l) p) := rfl
    rw [hb, Bool.or_eq_true] at h
    by_cases hc : x.f1 < p
    · have e : idxP p (x :: l) = idxP p l + 1 := by rw [idxP, if_pos hc]
      have h' : hasB (prs l) p = true := by
        rcases h with h | h
        · have := of_decide_eq_true h; omega
        · exact h
      obtain ⟨y, y1, y2, y3, y4⟩ := plc_idx p d h'
      refine ⟨y, by rw [e]; simpa using y1, y2, y3, ?_⟩
      rw [e, List.take_succ_cons]
      unfold plcP cntP
      rw [if_pos hc, y4]
      omega
    · have e : idxP p (x :: l) = 0 := by rw [idxP, if_neg hc]
      have hx : x.f0 ≤ p := by
        rcases h with h | h
        · exact (of_decide_eq_true h).1
        · have := (d.mem_ge ((hasB_iff _ _).1 h)).1; omega
      refine ⟨x, by rw [e]; rfl, hx, by omega, ?_⟩
      rw [e, List.take_zero]
      unfold plcP
      rw [if_neg hc, plcP_zero d (by omega)]
      show _ = 0 + _
      split <;> omega
def plcI (l : List Sn) (p : Int) : Int := if hasB (prs l) p = true then plcP p l else -1
theorem place_ev (l : List Sn) (hl : l.length ≤ 16777216) (p : Int) : Ev (fun k => span_Place.f k l p) (if isB (prs l) = true then plcI l p else -1) := by
  have h1 := has_evP l hl p
  unfold span_Place.f plcI
  cases e : isB (prs l) with
  | false =>
    rw [e] at h1
    exact Ev.bind h1 (Ev.ite_f (Ev.now _))
  | true =>
    rw [e, Bool.true_and] at h1
    have hr := (isB_iff.1 e).1
    cases e2 : hasB (prs l) p with
    | false =>
      rw [e2] at h1
      exact Ev.bind h1 (Ev.ite_f (Ev.now _))
    | true =>
      rw [e2] at h1
      obtain ⟨x, x1, x2, x3, x4⟩ := plc_idx p hr e2
      obtain ⟨hlt, hxx⟩ := List.getElem?_eq_some_iff.1 x1
      have hmx := may_at (isB_may e).1 _ hlt
      rw [hxx] at hmx
      have hbd := plcP_bd p (Int.le_refl _) hr
      have hcb := cntP_bd (Int.le_refl _) (by omega) hr
      have ht : isB (prs (l.take (idxP p l))) = true := isB_iff.2 ⟨by unfold prs; rw [List.map_take]; exact hr.take _, by rw [prs_len, List.length_take]; have := (isB_may e).2; omega⟩
      have hct := count_ev (l.take (idxP p l)) (by rw [List.length_take]; omega)
      rw [ht, if_pos rfl] at hct
      have i1 : (0 : Int) ≤ (idxP p l : Int) := by omega
      have i2 : ((idxP p l : Nat) : Int) ≤ (l.length : Int) := by omega
      have i3 : ((idxP p l : Nat) : Int) < (l.length : Int) := by omega
      have hrd := rdp_eq l _ hlt
      rw [hxx] at hrd
      have W := Aside0.mk (show wrap64 (cntP (l.take (idxP p l)) + wrap64 (wrap32 (p - x.f0))) = plcP p l from by
        rw [show wrap32 (p - x.f0) = p - x.f0 from by unfold wrap32; omega, show wrap64 (p - x.f0) = p - x.f0 from by unfold wrap64; omega, ← x4]
        unfold wrap64; omega)
      refine Ev.bind h1 (Ev.ite_t ?_)
      rw [if_pos rfl, if_pos rfl]
      refine Ev.congr (f := fun k => (span_Count.f k (l.take (idxP p l))).bind fun t => some (wrap64 (t + wrap64 (wrap32 (p - x.f0))))) (fun k => ?_) (Ev.bind hct (Ev.congr (fun k => by rw [W.out]) (Ev.now _)))
      rw [find_f hr hl]
      simp only [Option.bind_some]
      rw [if_pos i1, if_pos i2, hrd, Int.toNat_natCast]
      simp only [if_pos i3]
/-- The least one from a code point on; none: -1. -/
def nxtP (p : Int) : List Sn → Int
  | [] => -1
  | x :: l => if p ≤ x.f0 then x.f0 else if p ≤ x.f1 then p else nxtP p l
theorem nxt_idx : ∀ {l : List Sn} {low : Int} (p : Int), Rise low (prs l) → nxtP p l = match l[idxP p l]? with | some x => mx p x.f0 | none => -1
  | [], _, _, _ => rfl
  | x :: l, low, p, hr => by
    obtain ⟨a, b, c, d⟩ := rise_cons hr
    by_cases hc : x.f1 < p
    · have e : idxP p (x :: l) = idxP p l + 1 := by rw [idxP, if_pos hc]
      rw [e, List.getElem?_cons_succ, ← nxt_idx p d]
      unfold nxtP
      rw [if_neg (by omega), if_neg (by omega)]
      cases l <;> rfl
    · have e : idxP p (x :: l) = 0 := by rw [idxP, if_neg hc]
      rw [e]
      show nxtP p (x :: l) = mx p x.f0
      unfold nxtP mx
      split
      · split <;> omega
      · rw [if_pos (by omega), if_neg (by omega)]
theorem next_ev (l : List Sn) (hl : l.length ≤ 16777216) (p : Int) : Ev (fun k => span_Next.f k l p) (if isB (prs l) = true then nxtP p l else -1) := by
  have h1 := isP_ev l hl
  unfold span_Next.f
  cases e : isB (prs l) with
  | false =>
    rw [e] at h1
    exact Ev.bind h1 (Ev.ite_f (Ev.now _))
  | true =>
    rw [e] at h1
    have hr := (isB_iff.1 e).1
    refine Ev.bind h1 (Ev.ite_t ?_)
    rw [if_pos rfl, nxt_idx p hr]
    refine Ev.congr (fun k => ?_) (Ev.now _)
    rw [find_f hr hl]
    simp only [Option.bind_some]
    have hle := idxP_le p l
    by_cases hc : idxP p l < l.length
    · rw [if_neg (by omega), if_pos (by omega), if_pos (by omega), rdp_eq l _ hc, List.getElem?_eq_getElem hc]
    · rw [if_pos (by omega), List.getElem?_eq_none (by omega)]
end Go.Proofs.Ytkpdccegamcppaa.PSpan
