/- What span's Union, Cross, Minus, Other come to. -/
import Derived.Test.YtkpdccegamcppaaXCrs
import Derived.Test.YtkpdccegamcppaaPSpanx13
namespace Go.Proofs.Ytkpdccegamcppaa.PSpan
open Go.RowKit Go.Proofs.YtkpdccegamcppaaW.PrintWords Go.Proofs.YtkpdccegamcppaaW.PrintLast Go.Proofs.YtkpdccegamcppaaW.PrintMore Go.Proofs.Ytkpdccegamcppaa.SpanP
set_option linter.unusedVariables false
set_option linter.unusedSimpArgs false

/-- A set, if it has not too many spans; and the error. -/
def fitP (r : List Sn) : List Sn × Int := if r.length > 65536 then ([], 71) else (r, 0)
theorem fit_f (r : List Sn) : span_fit.f r = some (fitP r) := by
  unfold span_fit.f fitP
  by_cases h : r.length > 65536
  · rw [if_pos h, if_pos (by omega)]
  · rw [if_neg h, if_neg (by omega)]
theorem fitP_ok {r : List Sn} (h : r.length ≤ 65536) : fitP r = (r, 0) := by unfold fitP; rw [if_neg (by omega)]
theorem fitP_len (r : List Sn) : (fitP r).1.length ≤ r.length := by unfold fitP; split <;> simp
theorem fit_ev (r : List Sn) : Ev (fun _ => (span_fit.f r).bind fun b => some (b.1, b.2)) (fitP r) := Ev.congr (fun k => by rw [fit_f]; rfl) (Ev.now _)
theorem others_l {l : List Sn} (hr : Rise 0 (prs l)) (hl : l.length ≤ 16777216) : ∀ (d i : Nat) (out : List Sn) (nx : Int), i + d = l.length → out.length ≤ i → 0 ≤ nx → nx ≤ 1114112 → (∀ z ∈ out, z.f1 + 1 < nx) → (∀ z ∈ (l.drop i), nx ≤ z.f0) → (0 < i → ∀ z ∈ (l.drop i), nx < z.f0) →
    Rise nx (prs (l.drop i)) → Upto (fun p => ¬ Mem (prs l) p) (prs out) nx → (∀ p, nx ≤ p → (Mem (prs l) p ↔ Mem (prs (l.drop i)) p)) →
    ∃ r, Ev (fun k => span_others.l0 k out nx l (l.length : Int) (i : Int)) r ∧ Upto (fun p => ¬ Mem (prs l) p) (prs r) 1114112 ∧ r.length ≤ l.length + 1 := by
  intro d
  induction d with
  | zero =>
    intro i out nx hi hol h0 h1 hz hd hd2 hrd hu hm
    have hdn : l.drop i = [] := List.drop_of_length_le (by omega)
    have hnone : ∀ p, nx ≤ p → ¬ Mem (prs l) p := fun p hp hmm => by
      rw [hm p hp, hdn] at hmm
      exact mem_nil p hmm
    by_cases hc : nx ≤ 1114111
    · refine ⟨out ++ [⟨nx, 1114111⟩], Ev.step (f := fun _ => some _) (fun k => ?_) (Ev.now _), ?_, by simp only [List.length_append, List.length_cons, List.length_nil]; omega⟩
      · simp only [span_others.l0]
        rw [if_neg (by omega), if_pos hc, if_pos (by omega)]
      · rw [prs_append]
        exact hu.push (te := 1114111) h0 hc (by omega) (fun p k1 k2 => hnone p k1) (fun z hzz => by
          obtain ⟨y, hy, rfl⟩ := getLast_prs hzz
          have := hz y hy
          show y.f1 + 1 ≠ nx
          omega)
    · obtain rfl : nx = 1114112 := by omega
      refine ⟨out, Ev.step (f := fun _ => some _) (fun k => ?_) (Ev.now _), hu, by omega⟩
      simp only [span_others.l0]
      rw [if_neg (by omega), if_neg hc]
  | succ d ih =>
    intro i out nx hi hol h0 h1 hz hd hd2 hrd hu hm
    have hlt : i < l.length := by omega
    have hdc : l.drop i = l[i] :: l.drop (i + 1) := List.drop_eq_getElem_cons hlt
    have hx := rdp_eq l i hlt
    rw [hdc] at hd hrd hm hd2
    have hge := hd _ List.mem_cons_self
    have hgt := fun hp => hd2 hp _ List.mem_cons_self
    generalize l[i] = x at hdc hx hd hrd hm hd2 hge hgt
    obtain ⟨k1, k2, k3, k4⟩ := hrd
    have k2' : x.f0 ≤ x.f1 := k2
    have k3' : x.f1 ≤ 1114111 := k3
    have hmx : ∀ p, nx ≤ p → (Mem (prs l) p ↔ (x.f0 ≤ p ∧ p ≤ x.f1) ∨ Mem (prs (l.drop (i + 1))) p) := fun p hp => by rw [hm p hp, mem_prs_cons]
    have hgn : ∀ p, Mem (prs (l.drop (i + 1))) p → x.f1 + 2 ≤ p := fun p hp => (Rise.mem_ge k4 hp).1
    have hin : ∀ p, x.f0 ≤ p → p ≤ x.f1 → ¬ ¬ Mem (prs l) p := fun p a b hn => hn ((hmx p (by omega)).2 (.inl ⟨a, b⟩))
    have W1 := Aside0.mk (w64_succ i l.length hlt (by omega))
    have W2 := Aside0.mk (w32_succ (x := x.f1) (by omega) k3')
    have W3 := Aside0.mk (w32_pred (x := x.f0) (by omega) (by omega))
    have i1 : (i : Int) < (l.length : Int) := by omega
    have i2 : (0 : Int) ≤ (i : Int) := by omega
    have i3 : out.length < 17592186044416 := by omega
    have hrest : ∀ (o : List Sn), o.length ≤ i + 1 → (∀ z ∈ o, z.f1 + 1 < x.f1 + 1) → Upto (fun p => ¬ Mem (prs l) p) (prs o) (x.f1 + 1) → ∃ r, Ev (fun k => span_others.l0 k o (x.f1 + 1) l (l.length : Int) ((i + 1 : Nat) : Int)) r ∧ Upto (fun p => ¬ Mem (prs l) p) (prs r) 1114112 ∧ r.length ≤ l.length + 1 := fun o ho hzo huo =>
      ih (i + 1) o (x.f1 + 1) (by omega) ho (by omega) (by omega) hzo (fun z hz => by have := (Rise.ge k4 (pr z) (List.mem_map_of_mem hz)).1; have h' : x.f1 + 2 ≤ z.f0 := this; omega)
        (fun _ z hz => by have := (Rise.ge k4 (pr z) (List.mem_map_of_mem hz)).1; have h' : x.f1 + 2 ≤ z.f0 := this; omega) (Rise.weaken k4 (by show x.f1 + 1 ≤ x.f1 + 2; omega)) huo (fun p hp => by
          rw [hmx p (by omega)]
          exact ⟨fun k => k.elim (fun k => by omega) id, fun k => .inr k⟩)
    by_cases hc : x.f0 > nx
    · have hu1 := hu.push (te := x.f0 - 1) h0 (by omega) (by omega) (fun p a b hmm => by
        rcases (hmx p a).1 hmm with k | k
        · omega
        · have := hgn p k; omega) (fun z hzz => by
        obtain ⟨y, hy, rfl⟩ := getLast_prs hzz
        have := hz y hy
        show y.f1 + 1 ≠ nx
        omega)
      have hu2 := hu1.skip (te := x.f1) (by omega) (fun p a b => hin p (by omega) b)
      obtain ⟨r, r1, r2⟩ := hrest (out ++ [⟨nx, x.f0 - 1⟩]) (by simp only [List.length_append, List.length_cons, List.length_nil]; omega) (fun z hzz => by
        rcases List.mem_append.1 hzz with hzz | hzz
        · have := hz z hzz; omega
        · rw [List.mem_singleton.1 hzz]; show x.f0 - 1 + 1 < x.f1 + 1; omega) (by rw [prs_append]; exact hu2)
      refine ⟨r, Ev.step (fun k => ?_) r1, r2⟩
      simp only [span_others.l0]
      rw [hx, W1.out, W2.out, W3.out, if_pos i1, if_pos i2, if_pos i1, if_pos hc, if_pos i3]
    · have he : x.f0 = nx := by omega
      have hu2 := hu.skip (te := x.f1) (by omega) (fun p a b => hin p (by omega) b)
      obtain ⟨r, r1, r2⟩ := hrest out (by omega) (fun z hzz => by have := hz z hzz; omega) hu2
      refine ⟨r, Ev.step (fun k => ?_) r1, r2⟩
      simp only [span_others.l0]
      rw [hx, W1.out, W2.out, if_pos i1, if_pos i2, if_pos i1, if_neg hc]
theorem others_ev {l : List Sn} (hr : Rise 0 (prs l)) (hl : l.length ≤ 16777216) :
    ∃ r, Ev (fun k => span_others.f k l) r ∧ Rise 0 (prs r) ∧ (∀ p, Mem (prs r) p ↔ (0 ≤ p ∧ p ≤ 1114111 ∧ ¬ Mem (prs l) p)) ∧ r.length ≤ l.length + 1 := by
  obtain ⟨r, r1, r2, r3⟩ := others_l hr hl l.length 0 [] 0 (by omega) (Nat.le_refl _) (Int.le_refl _) (by omega) (fun z hz => by cases hz) (fun z hz => (Rise.ge hr (pr z) (List.mem_map_of_mem hz)).1) (fun h => absurd h (Nat.lt_irrefl 0)) hr (Upto.nil _) (fun p _ => Iff.rfl)
  exact ⟨r, r1, r2.whole.1, r2.whole.2, r3⟩

theorem cross_ev (a b : List Sn) (hl : a.length + b.length ≤ 16777216) :
    (isB (prs a) = true ∧ isB (prs b) = true ∧ ∃ r, Ev (fun k => span_Cross.f k a b) (fitP r) ∧ Rise 0 (prs r) ∧ (∀ p, Mem (prs r) p ↔ (Mem (prs a) p ∧ Mem (prs b) p)) ∧ r.length ≤ a.length + b.length) ∨
    ((isB (prs a) && isB (prs b)) = false ∧ Ev (fun k => span_Cross.f k a b) ([], 70)) := by
  have h1 := isP_ev a (by omega)
  have h2 := isP_ev b (by omega)
  have bad : Ev (fun k => span_Cross.j0 k a b true) ([], 70) := Ev.step (f := fun _ => some _) (fun k => by simp only [span_Cross.j0]; rw [if_pos trivial]) (Ev.now _)
  unfold span_Cross.f
  cases e1 : isB (prs a) with
  | false =>
    rw [e1] at h1
    refine .inr ⟨rfl, Ev.bind h1 ?_⟩
    exact Ev.ite_f bad
  | true =>
    rw [e1] at h1
    cases e2 : isB (prs b) with
    | false =>
      rw [e2] at h2
      refine .inr ⟨rfl, Ev.bind h1 ?_⟩
      refine Ev.ite_t ?_
      refine Ev.bind h2 ?_
      exact bad
    | true =>
      rw [e2] at h2
      obtain ⟨r, r1, r2, r3, r4⟩ := crossed_ev (isB_iff.1 e1).1 (isB_iff.1 e2).1 hl
      refine .inl ⟨rfl, rfl, r, ?_, r2, r3, r4⟩
      refine Ev.bind h1 ?_
      refine Ev.ite_t ?_
      refine Ev.bind h2 ?_
      refine Ev.step (f := fun k => (span_crossed.f k a b).bind fun t => (span_fit.f t).bind fun b => some (b.1, b.2)) (fun k => by simp [span_Cross.j0]) (Ev.bind r1 ?_)
      exact fit_ev r
theorem minus_ev (a b : List Sn) (hl : a.length + b.length ≤ 8388608) :
    (isB (prs a) = true ∧ isB (prs b) = true ∧ ∃ r, Ev (fun k => span_Minus.f k a b) (fitP r) ∧ Rise 0 (prs r) ∧ (∀ p, Mem (prs r) p ↔ (Mem (prs a) p ∧ ¬ Mem (prs b) p)) ∧ r.length ≤ a.length + b.length + 1) ∨
    ((isB (prs a) && isB (prs b)) = false ∧ Ev (fun k => span_Minus.f k a b) ([], 70)) := by
  have h1 := isP_ev a (by omega)
  have h2 := isP_ev b (by omega)
  have bad : Ev (fun k => span_Minus.j0 k a b true) ([], 70) := Ev.step (f := fun _ => some _) (fun k => by simp only [span_Minus.j0]; rw [if_pos trivial]) (Ev.now _)
  unfold span_Minus.f
  cases e1 : isB (prs a) with
  | false =>
    rw [e1] at h1
    refine .inr ⟨rfl, Ev.bind h1 ?_⟩
    exact Ev.ite_f bad
  | true =>
    rw [e1] at h1
    cases e2 : isB (prs b) with
    | false =>
      rw [e2] at h2
      refine .inr ⟨rfl, Ev.bind h1 ?_⟩
      refine Ev.ite_t ?_
      refine Ev.bind h2 ?_
      exact bad
    | true =>
      rw [e2] at h2
      obtain ⟨o, o1, o2, o3, o4⟩ := others_ev (isB_iff.1 e2).1 (by omega)
      obtain ⟨r, r1, r2, r3, r4⟩ := crossed_ev (isB_iff.1 e1).1 o2 (by omega)
      refine .inl ⟨rfl, rfl, r, ?_, r2, fun p => ?_, by omega⟩
      · refine Ev.bind h1 ?_
        refine Ev.ite_t ?_
        refine Ev.bind h2 ?_
        refine Ev.step (f := fun k => (span_others.f k b).bind fun t => (span_crossed.f k a t).bind fun t => (span_fit.f t).bind fun b => some (b.1, b.2)) (fun k => by simp [span_Minus.j0]) (Ev.bind o1 ?_)
        refine Ev.bind r1 ?_
        exact fit_ev r
      · rw [r3 p, o3 p]
        constructor
        · exact fun k => ⟨k.1, k.2.2.2⟩
        · exact fun k => ⟨k.1, ((isB_iff.1 e1).1.mem_ge k.1).1, ((isB_iff.1 e1).1.mem_ge k.1).2, k.2⟩
theorem other_ev (a : List Sn) (hl : a.length ≤ 8388608) :
    (isB (prs a) = true ∧ ∃ r, Ev (fun k => span_Other.f k a) (fitP r) ∧ Rise 0 (prs r) ∧ (∀ p, Mem (prs r) p ↔ (0 ≤ p ∧ p ≤ 1114111 ∧ ¬ Mem (prs a) p)) ∧ r.length ≤ a.length + 1) ∨
    (isB (prs a) = false ∧ Ev (fun k => span_Other.f k a) ([], 70)) := by
  have h1 := isP_ev a (by omega)
  unfold span_Other.f
  cases e1 : isB (prs a) with
  | false =>
    rw [e1] at h1
    refine .inr ⟨rfl, Ev.bind h1 ?_⟩
    exact Ev.ite_f (Ev.now _)
  | true =>
    rw [e1] at h1
    obtain ⟨o, o1, o2, o3, o4⟩ := others_ev (isB_iff.1 e1).1 (by omega)
    refine .inl ⟨rfl, o, Ev.bind h1 ?_, o2, o3, o4⟩
    refine Ev.ite_t ?_
    refine Ev.bind o1 ?_
    exact fit_ev o

/-! ### Union -/
def allIs (L : List (List Sn)) : Bool := L.all fun l => isB (prs l)
/-- The place of the first list that is no set; none: where L ends. -/
def badI : List (List Sn) → Nat
  | [] => 0
  | l :: L => if isB (prs l) = true then badI L + 1 else 0
theorem union_l {L : List (List Sn)} (hL : L.length ≤ 4) : ∀ (d i : Nat) (acc : List Sn), i + d = L.length → (∀ l ∈ L, l.length ≤ 1048576) → acc.length ≤ 65536 * i → mayL acc = true →
    (allIs (L.drop i) = true ∧ ∃ r, Ev (fun k => span_Union.l0 k acc L (L.length : Int) (i : Int)) ((fitP r).1, 0, (fitP r).2) ∧ Rise 0 (prs r) ∧ (∀ p, Mem (prs r) p ↔ (Mem (prs acc) p ∨ ∃ l ∈ L.drop i, Mem (prs l) p)) ∧ r.length ≤ 65536 * L.length ∧ r.length ≤ acc.length + ((L.drop i).map List.length).sum) ∨
    (allIs (L.drop i) = false ∧ Ev (fun k => span_Union.l0 k acc L (L.length : Int) (i : Int)) ([], ((i + badI (L.drop i) : Nat) : Int), 70)) := by
  intro d
  induction d with
  | zero =>
    intro i acc hi hb ha hm
    have hdn : L.drop i = [] := List.drop_of_length_le (by omega)
    obtain ⟨r, r1, r2, r3, r4⟩ := span_joined_f (l := acc) (by omega) hm
    refine .inl ⟨by rw [hdn]; rfl, r, Ev.step (f := fun _ => some _) (fun k => ?_) (Ev.now _), r2, fun p => ?_, by omega, by omega⟩
    · simp only [span_Union.l0]
      rw [if_neg (by omega), r1]
      simp only [Option.bind_some]
      rw [fit_f]
      rfl
    · rw [r3 p, hdn]
      exact ⟨fun k => .inl k, fun k => k.elim id (fun ⟨_, h, _⟩ => by cases h)⟩
  | succ d ih =>
    intro i acc hi hb ha hm
    have hlt : i < L.length := by omega
    have hdc : L.drop i = L[i] :: L.drop (i + 1) := List.drop_eq_getElem_cons hlt
    have hx : rd_L4 L (i : Int) = L[i] := by
      unfold rd_L4
      rw [Int.toNat_natCast, List.getD_eq_getElem?_getD, List.getElem?_eq_getElem hlt]
      rfl
    have hbl := hb _ (List.getElem_mem hlt)
    have h1 := isP_ev L[i] (by omega)
    have i1 : (i : Int) < (L.length : Int) := by omega
    have i2 : (0 : Int) ≤ (i : Int) := by omega
    have W1 := Aside0.mk (w64_succ i L.length hlt (by omega))
    have hall : allIs (L.drop i) = (isB (prs L[i]) && allIs (L.drop (i + 1))) := by rw [hdc]; rfl
    have hbad : badI (L.drop i) = if isB (prs L[i]) = true then badI (L.drop (i + 1)) + 1 else 0 := by rw [hdc]; rfl
    rw [hall, hbad]
    cases e1 : isB (prs L[i]) with
    | false =>
      rw [e1] at h1
      refine .inr ⟨rfl, Ev.step (fun k => ?_) (Ev.bind (f := fun k t => if t = true then span_Union.l0 k (acc ++ L[i]) L (L.length : Int) ((i + 1 : Nat) : Int) else some ([], (i : Int), 70)) h1 (Ev.congr (fun k => by rw [if_neg (by decide)]; rfl) (Ev.now _)))⟩
      simp only [span_Union.l0]
      rw [if_pos i1, if_pos i2, if_pos i1, hx, W1.out]
      have i3 : acc.length + L[i].length < 17592186044416 := by omega
      rw [if_pos i3]
    | true =>
      rw [e1] at h1
      obtain ⟨hm2, hl2⟩ := isB_may e1
      have i3 : acc.length + L[i].length < 17592186044416 := by omega
      have hmm : mayL (acc ++ L[i]) = true := by unfold mayL at hm hm2 ⊢; rw [List.all_append, hm, hm2]; rfl
      have step : ∀ v, Ev (fun k => span_Union.l0 k (acc ++ L[i]) L (L.length : Int) ((i + 1 : Nat) : Int)) v → Ev (fun k => span_Union.l0 k acc L (L.length : Int) (i : Int)) v := fun v hv =>
        Ev.step (fun k => by simp only [span_Union.l0]; rw [if_pos i1, if_pos i2, if_pos i1, hx, W1.out, if_pos i3]) (Ev.bind (f := fun k t => if t = true then span_Union.l0 k (acc ++ L[i]) L (L.length : Int) ((i + 1 : Nat) : Int) else some ([], (i : Int), 70)) h1 (Ev.ite_t hv))
      rcases ih (i + 1) (acc ++ L[i]) (by omega) hb (by rw [List.length_append]; omega) hmm with ⟨k1, r, k2, k3, k4, k5⟩ | ⟨k1, k2⟩
      · refine .inl ⟨by rw [k1]; rfl, r, step _ k2, k3, fun p => ?_, k5.1, by rw [hdc, List.map_cons, List.sum_cons]; have := k5.2; rw [List.length_append] at this; omega⟩
        rw [k4 p, prs_append, mem_append, hdc]
        constructor
        · rintro ((h | h) | ⟨l, hl, h⟩)
          · exact .inl h
          · exact .inr ⟨_, List.mem_cons_self, h⟩
          · exact .inr ⟨l, List.mem_cons_of_mem _ hl, h⟩
        · rintro (h | ⟨l, hl, h⟩)
          · exact .inl (.inl h)
          · rcases List.mem_cons.1 hl with rfl | hl
            · exact .inl (.inr h)
            · exact .inr ⟨l, hl, h⟩
      · refine .inr ⟨by rw [k1]; rfl, step _ ?_⟩
        rw [if_pos rfl, show i + (badI (L.drop (i + 1)) + 1) = i + 1 + badI (L.drop (i + 1)) by omega]
        exact k2
theorem union_ev (L : List (List Sn)) (hL : L.length ≤ 4) (hb : ∀ l ∈ L, l.length ≤ 1048576) :
    (allIs L = true ∧ ∃ r, Ev (fun k => span_Union.f k L) ((fitP r).1, 0, (fitP r).2) ∧ Rise 0 (prs r) ∧ (∀ p, Mem (prs r) p ↔ ∃ l ∈ L, Mem (prs l) p) ∧ r.length ≤ 65536 * L.length ∧ r.length ≤ (L.map List.length).sum) ∨
    (allIs L = false ∧ Ev (fun k => span_Union.f k L) ([], (badI L : Int), 70)) := by
  rcases union_l hL L.length 0 [] (by omega) hb (by simp) rfl with ⟨k1, r, k2, k3, k4, k5⟩ | ⟨k1, k2⟩
  · exact .inl ⟨k1, r, k2, k3, fun p => (k4 p).trans ⟨fun h => h.elim (fun h => absurd h (mem_nil p)) id, fun h => .inr h⟩, k5.1, by have := k5.2; rw [List.drop_zero, List.length_nil, Nat.zero_add] at this; exact this⟩
  · refine .inr ⟨k1, ?_⟩
    rw [List.drop_zero, Nat.zero_add] at k2
    exact k2
theorem refused_ev (L : List (List Sn)) (hL : L.length ≤ 4) (hb : ∀ l ∈ L, l.length ≤ 1048576) : Ev (fun k => posternlaw07_refused.f k L) (if allIs L = true then (0, false) else ((badI L : Int), true)) := by
  have : ∀ d i, i + d = L.length → Ev (fun k => posternlaw07_refused.l0 k L (i : Int)) (if allIs (L.drop i) = true then (0, false) else (((i + badI (L.drop i) : Nat) : Int), true)) := by
    intro d
    induction d with
    | zero =>
      intro i hi
      have hdn : L.drop i = [] := List.drop_of_length_le (by omega)
      refine Ev.step (f := fun _ => some _) (fun k => ?_) (Ev.now _)
      simp only [posternlaw07_refused.l0]
      rw [if_neg (by omega), hdn]
      rfl
    | succ d ih =>
      intro i hi
      have hlt : i < L.length := by omega
      have hdc : L.drop i = L[i] :: L.drop (i + 1) := List.drop_eq_getElem_cons hlt
      have hx : rd_L4 L (i : Int) = L[i] := by
        unfold rd_L4
        rw [Int.toNat_natCast, List.getD_eq_getElem?_getD, List.getElem?_eq_getElem hlt]
        rfl
      have hbl := hb _ (List.getElem_mem hlt)
      have h1 := isQ_ev (L[i].map toR) (by rw [List.length_map]; omega)
      rw [qrs_toR] at h1
      have h0 := given_ev L[i] (by omega)
      have i1 : (i : Int) < (L.length : Int) := by omega
      have i2 : (0 : Int) ≤ (i : Int) := by omega
      have W1 := Aside0.mk (w64_succ i L.length hlt (by omega))
      have hall : allIs (L.drop i) = (isB (prs L[i]) && allIs (L.drop (i + 1))) := by rw [hdc]; rfl
      have hbad : badI (L.drop i) = if isB (prs L[i]) = true then badI (L.drop (i + 1)) + 1 else 0 := by rw [hdc]; rfl
      rw [hall, hbad]
      refine Ev.step (f := fun k => (posternlaw07_given.f k L[i]).bind fun t => (posternref07_Is.f k t).bind fun u => if u = true then posternlaw07_refused.l0 k L ((i + 1 : Nat) : Int) else some ((i : Int), true)) (fun k => ?_) (Ev.bind h0 (Ev.bind h1 ?_))
      · simp only [posternlaw07_refused.l0]
        rw [if_pos i1, if_pos i2, hx, W1.out]
      · cases e1 : isB (prs L[i]) with
        | false =>
          rw [Bool.false_and, if_neg (by decide), if_neg (by decide)]
          exact Ev.ite_f (Ev.now _)
        | true =>
          rw [Bool.true_and, if_pos rfl, show i + (badI (L.drop (i + 1)) + 1) = i + 1 + badI (L.drop (i + 1)) by omega]
          exact Ev.ite_t (ih (i + 1) (by omega))
  have h := this L.length 0 (by omega)
  rw [List.drop_zero, Nat.zero_add] at h
  exact h
theorem told_ev (r l : List Sn) (e : Int) (he : (l, e) = fitP r) (hr : r.length ≤ 16777216) : Ev (fun k => posternlaw07_told.f k l e (r.map toR)) true := by
  unfold fitP at he
  by_cases h : r.length > 65536
  · rw [if_pos h] at he
    simp only [Prod.mk.injEq] at he
    obtain ⟨rfl, rfl⟩ := he
    refine Ev.congr (fun k => ?_) (Ev.now _)
    unfold posternlaw07_told.f
    rw [if_pos (by rw [List.length_map]; omega), if_pos rfl]
    rfl
  · rw [if_neg h] at he
    simp only [Prod.mk.injEq] at he
    obtain ⟨rfl, rfl⟩ := he
    have ha := alike_ev l (l.map toR) hr
    rw [decide_eq_true rfl] at ha
    refine Ev.congr (fun k => ?_) (Ev.bind (f := fun _ t => some t) ha (Ev.now _))
    unfold posternlaw07_told.f
    rw [if_neg (by rw [List.length_map]; omega), if_pos rfl]

end Go.Proofs.Ytkpdccegamcppaa.PSpan
