/- A text read as a set: the package's reader and the document's alike. The document's Parse: the same. -/
import Derived.Test.YtkpdccegamcppaaXHexs
import Derived.Test.YtkpdccegamcppaaXParse
import Derived.Test.YtkpdccegamcppaaPSpanx23
/-! ### XReadP: A text read as a set: the package's reader and the document's alike. -/
namespace Go.Proofs.Ytkpdccegamcppaa.PSpan
open Go.RowKit Go.Proofs.YtkpdccegamcppaaW.PrintWords Go.Proofs.YtkpdccegamcppaaW.PrintLast Go.Proofs.YtkpdccegamcppaaW.PrintMore Go.Proofs.Ytkpdccegamcppaa.SpanP
set_option linter.unusedVariables false
set_option linter.unusedSimpArgs false

/-- A span read: whether, from, to, where it ends. -/
def rs3 (fr : Int) (b : Int × Int × Nat) : Bool × Int × Int × Int := if wholeB b.2.2 b.2.1 (fr + 1) = true then (true, fr, b.2.1, b.1) else (false, 0, 0, b.1)
def rs2 (s : ByteArray) (a : Int × Int × Nat) : Bool × Int × Int × Int := if a.1 < (s.size : Int) ∧ bt s a.1 = 45 ∧ a.2.1 < 1114111 then rs3 a.2.1 (nm s (a.2.1 + 1) 6 0 0 (a.1 + 1)) else (true, a.2.1, a.2.1, a.1)
def rs1 (s : ByteArray) (low : Int) (a : Int × Int × Nat) : Bool × Int × Int × Int := if wholeB a.2.2 a.2.1 low = true then rs2 s a else (false, 0, 0, a.1)
def rs (s : ByteArray) (low i : Int) : Bool × Int × Int × Int := rs1 s low (nm s low 6 0 0 i)
/-- Spans read, one behind the other. -/
def parN (s : ByteArray) (rec : List Sn → Int → Int → List Sn × Int × Int) (out : List Sn) (r : Bool × Int × Int × Int) : List Sn × Int × Int :=
  if r.1 = true then (if r.2.2.2 = (s.size : Int) then (if ((out ++ [(⟨r.2.1, r.2.2.1⟩ : Sn)]).length : Int) > 65536 then ([], 0, 71) else (out ++ [⟨r.2.1, r.2.2.1⟩], 0, 0)) else if r.2.2.1 > 1114109 ∨ bt s r.2.2.2 ≠ 44 then ([], r.2.2.2, 72) else rec (out ++ [⟨r.2.1, r.2.2.1⟩]) (r.2.2.1 + 2) (r.2.2.2 + 1)) else ([], r.2.2.2, 72)
def parR (s : ByteArray) : Nat → List Sn → Int → Int → List Sn × Int × Int
  | 0, _, _, _ => ([], 0, 0)
  | f + 1, out, low, i => parN s (parR s f) out (rs s low i)
def parse (s : ByteArray) : List Sn × Int × Int := if s.size = 0 then ([], 0, 0) else parR s (s.size + 1) [] 0 0

theorem rs_rng (s : ByteArray) {low i : Int} (hl : 0 ≤ low) (h0 : 0 ≤ i) (h1 : i ≤ (s.size : Int)) :
    i ≤ (rs s low i).2.2.2 ∧ (rs s low i).2.2.2 ≤ (s.size : Int) ∧ ((rs s low i).1 = true → low ≤ (rs s low i).2.1 ∧ (rs s low i).2.1 ≤ (rs s low i).2.2.1 ∧ (rs s low i).2.2.1 ≤ 1114111) := by
  have ha := nm_rng s low 6 0 0 i (by omega) (by omega) (by decide) h1
  unfold rs
  generalize nm s low 6 0 0 i = a at ha ⊢
  unfold rs1
  by_cases hw : wholeB a.2.2 a.2.1 low = true
  · rw [if_pos hw]
    have hwa := whole_rng ha.2.2.2.2 ha.2.2.1 ha.2.2.2.1 hw
    unfold rs2
    by_cases hc : a.1 < (s.size : Int) ∧ bt s a.1 = 45 ∧ a.2.1 < 1114111
    · rw [if_pos hc]
      have hb := nm_rng s (a.2.1 + 1) 6 0 0 (a.1 + 1) (by omega) (by omega) (by decide) (by omega)
      generalize nm s (a.2.1 + 1) 6 0 0 (a.1 + 1) = b at hb ⊢
      unfold rs3
      by_cases hv : wholeB b.2.2 b.2.1 (a.2.1 + 1) = true
      · rw [if_pos hv]
        have hwb := whole_rng hb.2.2.2.2 hb.2.2.1 hb.2.2.2.1 hv
        refine ⟨?_, hb.2.1, fun _ => ⟨hwa.1, ?_, hwb.2⟩⟩
        · show i ≤ b.1; omega
        · show a.2.1 ≤ b.2.1; omega
      · rw [if_neg hv]
        refine ⟨?_, hb.2.1, fun h => by cases h⟩
        show i ≤ b.1; omega
    · rw [if_neg hc]
      exact ⟨ha.1, ha.2.1, fun _ => ⟨hwa.1, Int.le_refl _, hwa.2⟩⟩
  · rw [if_neg hw]
    exact ⟨ha.1, ha.2.1, fun h => by cases h⟩
theorem pointf_ev (s : ByteArray) (hs : s.size ≤ 1099511627776) (low i : Int) (h0 : 0 ≤ i) (h1 : i ≤ (s.size : Int)) :
    Ev (fun k => span_reader_point.f k s i low) ((nm s low 6 0 0 i).2.1, wholeB (nm s low 6 0 0 i).2.2 (nm s low 6 0 0 i).2.1 low, s, (nm s low 6 0 0 i).1) :=
  point_ev s hs low 6 0 0 i rfl (by omega) (by decide) h0 h1
theorem numberf_ev (s : ByteArray) (hs : s.size ≤ 1099511627776) (low i : Int) (h0 : 0 ≤ i) (h1 : i ≤ (s.size : Int)) :
    Ev (fun k => posternref07_number.f k s i low) ((nm s low 6 0 0 i).1, (nm s low 6 0 0 i).2.1, wholeB (nm s low 6 0 0 i).2.2 (nm s low 6 0 0 i).2.1 low) :=
  number_ev s hs i low h0 6 0 0 i rfl (by omega) (by decide) (by omega) h1
theorem sign_f (s : ByteArray) (i c : Int) (h0 : 0 ≤ i) (hs : s.size ≤ 1099511627776) : span_reader_sign.f s i c = if i < (s.size : Int) ∧ bt s i = c then some (true, s, i + 1) else some (false, s, i) := by
  unfold span_reader_sign.f
  by_cases h : i < (s.size : Int)
  · rw [if_pos h, if_pos h0]
    by_cases hc : bt s i = c
    · rw [if_pos hc, if_pos ⟨h, hc⟩, show wrap64 (i + 1) = i + 1 by unfold wrap64; omega]
    · rw [if_neg hc, if_neg (fun h' => hc h'.2)]
  · rw [if_neg h, if_neg (fun h' => h h'.1)]
theorem span_ev (s : ByteArray) (hs : s.size ≤ 1099511627776) (low i : Int) (hl : 0 ≤ low) (h0 : 0 ≤ i) (h1 : i ≤ (s.size : Int)) :
    Ev (fun k => span_reader_span.f k s i low) ((rs s low i).2.1, (rs s low i).2.2.1, (rs s low i).1, s, (rs s low i).2.2.2) := by
  have ha := nm_rng s low 6 0 0 i (by omega) (by omega) (by decide) h1
  have hp := pointf_ev s hs low i h0 h1
  unfold rs
  generalize nm s low 6 0 0 i = a at ha hp ⊢
  unfold span_reader_span.f rs1
  refine Ev.bind hp ?_
  cases hw : wholeB a.2.2 a.2.1 low with
  | false => exact Ev.congr (fun k => if_neg Bool.false_ne_true) (Ev.now _)
  | true =>
    have hwa := whole_rng ha.2.2.2.2 ha.2.2.1 ha.2.2.2.1 hw
    refine Ev.congr (fun k => if_pos rfl) ?_
    rw [if_pos rfl]
    unfold rs2
    by_cases hm : a.2.1 < 1114111
    · refine Ev.congr (fun k => if_pos hm) ?_
      refine Ev.congr (fun k => congrArg (fun o => Option.bind o _) (sign_f s a.1 45 (by omega) hs)) ?_
      by_cases hc : a.1 < (s.size : Int) ∧ bt s a.1 = 45
      · rw [if_pos hc, if_pos ⟨hc.1, hc.2, hm⟩]
        have hq := pointf_ev s hs (a.2.1 + 1) (a.1 + 1) (by omega) (by omega)
        generalize nm s (a.2.1 + 1) 6 0 0 (a.1 + 1) = b at hq ⊢
        unfold rs3
        refine Ev.step (f := fun k => (span_reader_point.f k s (a.1 + 1) (a.2.1 + 1)).bind fun t => (if t.2.1 = true then (some (a.2.1, t.1, true, t.2.2.1, t.2.2.2)) else (some (0, 0, false, t.2.2.1, t.2.2.2)))) (fun k => ?_) (Ev.bind hq ?_)
        · show span_reader_span.j0 (k + 1) a.2.1 a.2.1 true s (a.1 + 1) = _
          rw [span_reader_span.j0, if_pos rfl, show wrap32 (a.2.1 + 1) = a.2.1 + 1 by unfold wrap32; omega]
        · cases hv : wholeB b.2.2 b.2.1 (a.2.1 + 1) with
          | false => exact Ev.congr (fun k => if_neg Bool.false_ne_true) (Ev.now _)
          | true => exact Ev.congr (fun k => if_pos rfl) (Ev.now _)
      · rw [if_neg hc, if_neg (fun h => hc ⟨h.1, h.2.1⟩)]
        refine Ev.step (f := fun k => some _) (fun k => ?_) (Ev.now _)
        show span_reader_span.j0 (k + 1) a.2.1 a.2.1 false s a.1 = _
        rw [span_reader_span.j0, if_neg (by decide)]
    · refine Ev.congr (fun k => if_neg hm) ?_
      rw [if_neg (fun h => hm h.2.2)]
      refine Ev.step (f := fun k => some _) (fun k => ?_) (Ev.now _)
      rw [span_reader_span.j0, if_neg (by decide)]
theorem parse_l (s : ByteArray) (hs : s.size ≤ 1099511627776) : ∀ (f : Nat) (out : List Sn) (low i : Int), 0 ≤ low → 0 ≤ i → i ≤ (s.size : Int) → (s.size : Int) - i < (f : Int) → (out.length : Int) ≤ i →
    ∃ u v, Ev (fun k => span_Parse.l0 k s out low s i) ((parR s f out low i).1, (parR s f out low i).2.1, (parR s f out low i).2.2, u, v) := by
  intro f
  induction f with
  | zero => intro out low i hl h0 h1 hf; omega
  | succ f ih =>
    intro out low i hl h0 h1 hf ho
    have hr := rs_rng s hl h0 h1
    have hp := span_ev s hs low i hl h0 h1
    rw [parR]
    generalize rs s low i = r at hr hp ⊢
    unfold parN
    have go : ∀ {x : List Sn × Int × Int × ByteArray × Int} {g : Nat → (Int × Int × Bool × ByteArray × Int) → Option (List Sn × Int × Int × ByteArray × Int)}, (∀ k, span_Parse.l0 (k + 1) s out low s i = (span_reader_span.f k s i low).bind (g k)) → Ev (fun k => g k (r.2.1, r.2.2.1, r.1, s, r.2.2.2)) x → Ev (fun k => span_Parse.l0 k s out low s i) x := fun h1 h2 => Ev.step h1 (Ev.bind hp h2)
    cases hw : r.1 with
    | false =>
      rw [if_neg (by decide)]
      refine ⟨s, r.2.2.2, go (fun k => by rw [span_Parse.l0]) ?_⟩
      refine Ev.congr (fun k => if_neg (by show ¬ r.1 = true; rw [hw]; decide)) (Ev.now _)
    | true =>
      have hq := hr.2.2 hw
      rw [if_pos rfl]
      have hlen : out.length < 17592186044416 := by omega
      by_cases he : r.2.2.2 = (s.size : Int)
      · rw [if_pos he]
        by_cases hn : ((out ++ [(⟨r.2.1, r.2.2.1⟩ : Sn)]).length : Int) > 65536
        · rw [if_pos hn]
          refine ⟨s, r.2.2.2, go (fun k => by rw [span_Parse.l0]) ?_⟩
          refine Ev.congr (fun k => (if_pos hw).trans ((if_pos hlen).trans ?_)) (Ev.now _)
          exact (if_pos he).trans (if_pos hn)
        · rw [if_neg hn]
          refine ⟨s, r.2.2.2, go (fun k => by rw [span_Parse.l0]) ?_⟩
          refine Ev.congr (fun k => (if_pos hw).trans ((if_pos hlen).trans ?_)) (Ev.now _)
          exact (if_pos he).trans (if_neg hn)
      · rw [if_neg he]
        have hw32 : wrap32 (r.2.2.1 + 2) = r.2.2.1 + 2 := by unfold wrap32; omega
        by_cases hb : r.2.2.1 > 1114109
        · rw [if_pos (.inl hb)]
          refine ⟨s, r.2.2.2, go (fun k => by rw [span_Parse.l0]) ?_⟩
          refine Ev.congr (fun k => (if_pos hw).trans ((if_pos hlen).trans ?_)) (Ev.now _)
          exact (if_neg he).trans (if_pos (by show wrap32 (r.2.2.1 + 2) > 1114111; rw [hw32]; omega))
        · have hsg := sign_f s r.2.2.2 44 (by omega) hs
          by_cases hc : bt s r.2.2.2 = 44
          · rw [if_neg (by rintro (h | h); exact hb h; exact h hc)]
            rw [if_pos ⟨by omega, hc⟩] at hsg
            obtain ⟨u, v, hi⟩ := ih (out ++ [⟨r.2.1, r.2.2.1⟩]) (r.2.2.1 + 2) (r.2.2.2 + 1) (by omega) (by omega) (by omega) (by omega) (by rw [List.length_append, List.length_singleton]; omega)
            refine ⟨u, v, go (fun k => by rw [span_Parse.l0]) ?_⟩
            refine Ev.congr (fun k => (if_pos hw).trans ((if_pos hlen).trans ?_)) hi
            refine (if_neg he).trans ((if_neg (by show ¬ wrap32 (r.2.2.1 + 2) > 1114111; rw [hw32]; omega)).trans ?_)
            refine (congrArg (fun o => Option.bind o _) hsg).trans ?_
            show span_Parse.l0 k s _ (wrap32 (r.2.2.1 + 2)) s (r.2.2.2 + 1) = _
            rw [hw32]
          · rw [if_pos (.inr hc)]
            rw [if_neg (fun h => hc h.2)] at hsg
            refine ⟨s, r.2.2.2, go (fun k => by rw [span_Parse.l0]) ?_⟩
            refine Ev.congr (fun k => (if_pos hw).trans ((if_pos hlen).trans ?_)) (Ev.now _)
            refine (if_neg he).trans ((if_neg (by show ¬ wrap32 (r.2.2.1 + 2) > 1114111; rw [hw32]; omega)).trans ?_)
            refine (congrArg (fun o => Option.bind o _) hsg).trans ?_
            rfl
theorem size_nil {s : ByteArray} : s.toList = ([] : List UInt8) ↔ s.size = 0 := by
  rw [← List.length_eq_zero_iff]
  have : s.toList.length = s.size := by rw [ByteArray.toList_eq, Array.length_toList]; rfl
  rw [this]
theorem parse_ev (s : ByteArray) (hs : s.size ≤ 1099511627776) : Ev (fun k => span_Parse.f k s) (parse s) := by
  unfold span_Parse.f parse
  by_cases h : s.size = 0
  · rw [if_pos h]
    exact Ev.congr (fun k => if_pos (size_nil.2 h)) (Ev.now _)
  · rw [if_neg h]
    refine Ev.congr (fun k => if_neg (fun h' => h (size_nil.1 h'))) ?_
    obtain ⟨u, v, hp⟩ := parse_l s hs (s.size + 1) [] 0 0 (by omega) (by omega) (by omega) (by omega) (by simp)
    exact Ev.bind hp (Ev.now _)

end Go.Proofs.Ytkpdccegamcppaa.PSpan

/-! ### XReadQ: The document's Parse: the same. -/
namespace Go.Proofs.Ytkpdccegamcppaa.PSpan
open Go.RowKit Go.Proofs.YtkpdccegamcppaaW.PrintWords Go.Proofs.YtkpdccegamcppaaW.PrintLast Go.Proofs.YtkpdccegamcppaaW.PrintMore Go.Proofs.Ytkpdccegamcppaa.SpanP
set_option linter.unusedVariables false
set_option linter.unusedSimpArgs false

def mapQ (t : List Sn × Int × Int) : List Q × Int × Int := (t.1.map toR, t.2.1, t.2.2)
theorem parseQ_j2 {s : ByteArray} (hs : s.size ≤ 1099511627776) {rec : List Sn → Int → Int → List Sn × Int × Int} {out : List Sn} {fr tt j : Int} (h0 : 0 ≤ j) (h1 : j ≤ (s.size : Int)) (ho : out.length < 17592186044416) (ht0 : 0 ≤ tt) (ht1 : tt ≤ 1114111)
    (ih : j < (s.size : Int) → tt ≤ 1114109 → Ev (fun k => posternref07_Parse.l0 k s ((out ++ [(⟨fr, tt⟩ : Sn)]).map toR) (tt + 2) (j + 1)) (mapQ (rec (out ++ [⟨fr, tt⟩]) (tt + 2) (j + 1)))) :
    Ev (fun k => posternref07_Parse.j2 k s (out.map toR) j fr tt) (mapQ (parN s rec out (true, fr, tt, j))) := by
  have hm : (out ++ [(⟨fr, tt⟩ : Sn)]).map toR = out.map toR ++ [⟨fr, tt⟩] := by simp [toR]
  have hl : ((out.map toR ++ [(⟨fr, tt⟩ : Q)]).length : Int) = ((out ++ [(⟨fr, tt⟩ : Sn)]).length : Int) := by simp
  have hlen : (out.map toR).length < 17592186044416 := by rw [List.length_map]; exact ho
  unfold parN
  rw [if_pos rfl]
  show Ev _ (mapQ (if j = (s.size : Int) then _ else if tt > 1114109 ∨ bt s j ≠ 44 then ([], j, 72) else rec (out ++ [⟨fr, tt⟩]) (tt + 2) (j + 1)))
  have go : ∀ {g : Nat → Option (List Q × Int × Int)} {x : List Q × Int × Int}, (∀ k, (if j = (s.size : Int) then (if ((out.map toR ++ [(⟨fr, tt⟩ : Q)]).length : Int) > 65536 then (some (([] : List Q), 0, 71)) else (some (out.map toR ++ [(⟨fr, tt⟩ : Q)], 0, 0))) else (if 0 ≤ j then (if j < (s.size : Int) then (if (bt s j) = 44 then (if tt > 1114109 then (some (([] : List Q), j, 72)) else (posternref07_Parse.l0 k s (out.map toR ++ [(⟨fr, tt⟩ : Q)]) (wrap32 (tt + 2)) (wrap64 (j + 1)))) else (some (([] : List Q), j, 72))) else (none)) else (none)) : Option (List Q × Int × Int)) = g k) → Ev g x → Ev (fun k => posternref07_Parse.j2 k s (out.map toR) j fr tt) x := fun h1 h2 =>
    Ev.step (fun k => by rw [posternref07_Parse.j2, if_pos hlen]; exact h1 k) h2
  by_cases he : j = (s.size : Int)
  · rw [if_pos he]
    by_cases hn : ((out ++ [(⟨fr, tt⟩ : Sn)]).length : Int) > 65536
    · have e : (if ((out ++ [(⟨(true, fr, tt, j).2.1, (true, fr, tt, j).2.2.1⟩ : Sn)]).length : Int) > 65536 then (([] : List Sn), (0 : Int), (71 : Int)) else (out ++ [⟨(true, fr, tt, j).2.1, (true, fr, tt, j).2.2.1⟩], 0, 0)) = ([], 0, 71) := if_pos hn
      rw [e]
      exact go (fun k => (if_pos he).trans (if_pos (by rw [hl]; exact hn))) (Ev.now _)
    · have e : (if ((out ++ [(⟨(true, fr, tt, j).2.1, (true, fr, tt, j).2.2.1⟩ : Sn)]).length : Int) > 65536 then (([] : List Sn), (0 : Int), (71 : Int)) else (out ++ [⟨(true, fr, tt, j).2.1, (true, fr, tt, j).2.2.1⟩], 0, 0)) = (out ++ [⟨fr, tt⟩], 0, 0) := if_neg hn
      rw [e]
      unfold mapQ
      rw [hm]
      exact go (fun k => (if_pos he).trans (if_neg (by rw [hl]; exact hn))) (Ev.now _)
  · rw [if_neg he]
    have hj : j < (s.size : Int) := by omega
    by_cases hc : bt s j = 44
    · by_cases hb : tt > 1114109
      · rw [if_pos (.inl hb)]
        exact go (fun k => (if_neg he).trans ((if_pos h0).trans ((if_pos hj).trans ((if_pos hc).trans (if_pos hb))))) (Ev.now _)
      · rw [if_neg (by rintro (h | h); exact hb h; exact h hc)]
        have hi := ih hj (by omega)
        rw [hm] at hi
        refine go (fun k => (if_neg he).trans ((if_pos h0).trans ((if_pos hj).trans ((if_pos hc).trans ((if_neg hb).trans ?_))))) hi
        rw [show wrap32 (tt + 2) = tt + 2 by unfold wrap32; omega, show wrap64 (j + 1) = j + 1 by unfold wrap64; omega]
    · rw [if_pos (.inr hc)]
      exact go (fun k => (if_neg he).trans ((if_pos h0).trans ((if_pos hj).trans (if_neg hc)))) (Ev.now _)
theorem parseQ_l (s : ByteArray) (hs : s.size ≤ 1099511627776) : ∀ (f : Nat) (out : List Sn) (low i : Int), 0 ≤ low → 0 ≤ i → i ≤ (s.size : Int) → (s.size : Int) - i < (f : Int) → (out.length : Int) ≤ i →
    Ev (fun k => posternref07_Parse.l0 k s (out.map toR) low i) (mapQ (parR s f out low i)) := by
  intro f
  induction f with
  | zero => intro out low i hl h0 h1 hf; omega
  | succ f ih =>
    intro out low i hl h0 h1 hf ho
    have ha := nm_rng s low 6 0 0 i (by omega) (by omega) (by decide) h1
    have hp := numberf_ev s hs low i h0 h1
    have hlen : out.length < 17592186044416 := by omega
    rw [parR]
    unfold rs
    generalize nm s low 6 0 0 i = a at ha hp ⊢
    refine Ev.step (fun k => by rw [posternref07_Parse.l0]) (Ev.bind hp ?_)
    unfold rs1
    cases hw : wholeB a.2.2 a.2.1 low with
    | false => exact Ev.congr (fun k => if_neg Bool.false_ne_true) (Ev.now _)
    | true =>
      have hwa := whole_rng ha.2.2.2.2 ha.2.2.1 ha.2.2.2.1 hw
      rw [if_pos rfl]
      refine Ev.congr (fun k => if_pos rfl) ?_
      have one : ∀ tt j : Int, a.1 ≤ j → j ≤ (s.size : Int) → a.2.1 ≤ tt → tt ≤ 1114111 → Ev (fun k => posternref07_Parse.j2 k s (out.map toR) j a.2.1 tt) (mapQ (parN s (parR s f) out (true, a.2.1, tt, j))) := fun tt j g1 g2 g3 g4 =>
        parseQ_j2 hs (by omega) g2 hlen (by omega) g4 (fun k1 k2 => ih _ _ _ (by omega) (by omega) (by omega) (by omega) (by rw [List.length_append, List.length_singleton]; omega))
      have alone : ∀ b : Bool, b = false → Ev (fun k => posternref07_Parse.j1 k s (out.map toR) a.1 a.2.1 b a.2.1 a.2.1) (mapQ (parN s (parR s f) out (true, a.2.1, a.2.1, a.1))) := fun b hb =>
        Ev.step (fun k => by rw [posternref07_Parse.j1, hb, if_neg (by decide)]) (one a.2.1 a.1 (Int.le_refl _) ha.2.1 (Int.le_refl _) hwa.2)
      unfold rs2
      by_cases hc : a.1 < (s.size : Int)
      · refine Ev.congr (fun k => (if_pos hc).trans (if_pos (by omega))) ?_
        by_cases hd : bt s a.1 = 45
        · refine Ev.congr (fun k => if_pos hd) ?_
          by_cases hm : a.2.1 < 1114111
          · rw [if_pos ⟨hc, hd, hm⟩]
            have hb := nm_rng s (a.2.1 + 1) 6 0 0 (a.1 + 1) (by omega) (by omega) (by decide) (by omega)
            have hq := numberf_ev s hs (a.2.1 + 1) (a.1 + 1) (by omega) (by omega)
            generalize nm s (a.2.1 + 1) 6 0 0 (a.1 + 1) = b at hb hq ⊢
            refine Ev.step (fun k => ?_) (Ev.bind (g := fun k => posternref07_number.f k s (a.1 + 1) (a.2.1 + 1)) (f := fun k t => if t.2.2 = true then posternref07_Parse.j2 k s (out.map toR) t.1 a.2.1 t.2.1 else some (([] : List Q), t.1, 72)) hq ?_)
            · show posternref07_Parse.j1 (k + 1) s (out.map toR) a.1 a.2.1 (decide (a.2.1 < 1114111)) a.2.1 a.2.1 = _
              rw [posternref07_Parse.j1, if_pos (decide_eq_true hm), show wrap32 (a.2.1 + 1) = a.2.1 + 1 by unfold wrap32; omega, show wrap64 (a.1 + 1) = a.1 + 1 by unfold wrap64; omega]
            · unfold rs3
              cases hv : wholeB b.2.2 b.2.1 (a.2.1 + 1) with
              | false => exact Ev.congr (fun k => if_neg Bool.false_ne_true) (Ev.now _)
              | true =>
                have hwb := whole_rng hb.2.2.2.2 hb.2.2.1 hb.2.2.2.1 hv
                exact Ev.congr (fun k => if_pos rfl) (one b.2.1 b.1 (by omega) hb.2.1 (by omega) hwb.2)
          · rw [if_neg (fun h => hm h.2.2)]
            exact alone _ (decide_eq_false hm)
        · rw [if_neg (fun h => hd h.2.1)]
          exact Ev.congr (fun k => if_neg hd) (alone _ rfl)
      · rw [if_neg (fun h => hc h.1)]
        exact Ev.congr (fun k => if_neg hc) (alone _ rfl)
theorem parseQ_ev (s : ByteArray) (hs : s.size ≤ 1099511627776) : Ev (fun k => posternref07_Parse.f k s) (mapQ (parse s)) := by
  unfold posternref07_Parse.f parse
  show Ev (fun k => if s.toList = ([] : List UInt8) then _ else _) _
  by_cases h : s.size = 0
  · rw [if_pos h]
    exact Ev.congr (fun k => if_pos (size_nil.2 h)) (Ev.now _)
  · rw [if_neg h]
    exact Ev.congr (fun k => if_neg (fun h' => h (size_nil.1 h'))) (parseQ_l s hs (s.size + 1) [] 0 0 (by omega) (by omega) (by omega) (by omega) (by simp))

end Go.Proofs.Ytkpdccegamcppaa.PSpan
