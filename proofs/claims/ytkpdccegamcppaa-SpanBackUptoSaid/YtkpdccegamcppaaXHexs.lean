/- A number told in digits: told. A number told in digits: the document's Hex. What is read as a number is told so, and what is told is read. -/
import Derived.Test.YtkpdccegamcppaaXNum
import Derived.Test.YtkpdccegamcppaaPSpanx20
import Derived.Test.YtkpdccegamcppaaPSpanx23
/-! ### XTold: A number told in digits: told. -/
namespace Go.Proofs.Ytkpdccegamcppaa.PSpan
open Go.RowKit Go.Proofs.YtkpdccegamcppaaW.PrintWords Go.Proofs.YtkpdccegamcppaaW.PrintLast Go.Proofs.YtkpdccegamcppaaW.PrintMore Go.Proofs.Ytkpdccegamcppaa.SpanP
set_option linter.unusedVariables false
set_option linter.unusedSimpArgs false

theorem told_app {n x4 d : Int} {out : List Int} {r : ByteArray} (hx : 0 ≤ x4) (hd : Go.bits .and .i32 (shr .i32 n x4) 15 = d) (h0 : 0 ≤ d) (h1 : d < 16) (hc : 0 < out.length ∨ 0 < d ∨ x4 < 16) (hl : out.length < 1000)
    (h : Ev (fun k => span_told.l0 k n (out ++ [bt hex16 d]) (wrap64 (x4 - 4))) r) : Ev (fun k => span_told.l0 k n out x4) r := by
  refine Ev.step (fun k => ?_) h
  rw [span_told.l0, if_pos (show x4 ≥ 0 from hx), if_pos hx, hd]
  by_cases c1 : (out.length : Int) > 0
  · rw [if_pos c1, if_pos h0, if_pos h1, if_pos (by omega)]
  · rw [if_neg c1]
    by_cases c2 : d > 0
    · rw [if_pos c2, if_pos h0, if_pos h1, if_pos (by omega)]
    · rw [if_neg c2, if_pos (by omega), if_pos h0, if_pos h1, if_pos (by omega)]
theorem told_skip {n x4 : Int} {r : ByteArray} (hx : 16 ≤ x4) (hd : Go.bits .and .i32 (shr .i32 n x4) 15 = 0)
    (h : Ev (fun k => span_told.l0 k n [] (wrap64 (x4 - 4))) r) : Ev (fun k => span_told.l0 k n [] x4) r := by
  refine Ev.step (fun k => ?_) h
  rw [span_told.l0, if_pos (show x4 ≥ 0 by omega), if_pos (by omega), hd, if_neg (by decide), if_neg (by decide), if_neg (by omega)]
theorem nib0 {n : Int} (h0 : 0 ≤ n) (h1 : n ≤ 1114111) : Go.bits .and .i32 (shr .i32 n 0) 15 = n / 1 % 16 := by
  have e : shr .i32 n 0 = n / 1 := by
    unfold shr
    rw [show (2 : Int) ^ min (0 : Int).toNat IntKind.i32.bits = 1 from by decide +kernel]
  rw [e]
  exact bits_mask .i32 31 (by decide) wraps_i32 4 (by decide) (n / 1) (by omega) (by omega)
theorem nib1 {n : Int} (h0 : 0 ≤ n) (h1 : n ≤ 1114111) : Go.bits .and .i32 (shr .i32 n 4) 15 = n / 16 % 16 := by
  have e : shr .i32 n 4 = n / 16 := by
    unfold shr
    rw [show (2 : Int) ^ min (4 : Int).toNat IntKind.i32.bits = 16 from by decide +kernel]
  rw [e]
  exact bits_mask .i32 31 (by decide) wraps_i32 4 (by decide) (n / 16) (by omega) (by omega)
theorem nib2 {n : Int} (h0 : 0 ≤ n) (h1 : n ≤ 1114111) : Go.bits .and .i32 (shr .i32 n 8) 15 = n / 256 % 16 := by
  have e : shr .i32 n 8 = n / 256 := by
    unfold shr
    rw [show (2 : Int) ^ min (8 : Int).toNat IntKind.i32.bits = 256 from by decide +kernel]
  rw [e]
  exact bits_mask .i32 31 (by decide) wraps_i32 4 (by decide) (n / 256) (by omega) (by omega)
theorem nib3 {n : Int} (h0 : 0 ≤ n) (h1 : n ≤ 1114111) : Go.bits .and .i32 (shr .i32 n 12) 15 = n / 4096 % 16 := by
  have e : shr .i32 n 12 = n / 4096 := by
    unfold shr
    rw [show (2 : Int) ^ min (12 : Int).toNat IntKind.i32.bits = 4096 from by decide +kernel]
  rw [e]
  exact bits_mask .i32 31 (by decide) wraps_i32 4 (by decide) (n / 4096) (by omega) (by omega)
theorem nib4 {n : Int} (h0 : 0 ≤ n) (h1 : n ≤ 1114111) : Go.bits .and .i32 (shr .i32 n 16) 15 = n / 65536 % 16 := by
  have e : shr .i32 n 16 = n / 65536 := by
    unfold shr
    rw [show (2 : Int) ^ min (16 : Int).toNat IntKind.i32.bits = 65536 from by decide +kernel]
  rw [e]
  exact bits_mask .i32 31 (by decide) wraps_i32 4 (by decide) (n / 65536) (by omega) (by omega)
theorem nib5 {n : Int} (h0 : 0 ≤ n) (h1 : n ≤ 1114111) : Go.bits .and .i32 (shr .i32 n 20) 15 = n / 1048576 % 16 := by
  have e : shr .i32 n 20 = n / 1048576 := by
    unfold shr
    rw [show (2 : Int) ^ min (20 : Int).toNat IntKind.i32.bits = 1048576 from by decide +kernel]
  rw [e]
  exact bits_mask .i32 31 (by decide) wraps_i32 4 (by decide) (n / 1048576) (by omega) (by omega)
/-- The digits of a number, as it is told. -/
def toldP (n : Int) : List Int := if 1048576 ≤ n then [bt hex16 (n / 1048576 % 16), bt hex16 (n / 65536 % 16), bt hex16 (n / 4096 % 16), bt hex16 (n / 256 % 16), bt hex16 (n / 16 % 16), bt hex16 (n / 1 % 16)] else if 65536 ≤ n then [bt hex16 (n / 65536 % 16), bt hex16 (n / 4096 % 16), bt hex16 (n / 256 % 16), bt hex16 (n / 16 % 16), bt hex16 (n / 1 % 16)] else [bt hex16 (n / 4096 % 16), bt hex16 (n / 256 % 16), bt hex16 (n / 16 % 16), bt hex16 (n / 1 % 16)]
theorem told_ev {n : Int} (h0 : 0 ≤ n) (h1 : n ≤ 1114111) : Ev (fun k => span_told.f k n) (strOfNums (toldP n)) := by
  have fin : ∀ out : List Int, Ev (fun k => span_told.l0 k n out (-4)) (strOfNums out) := fun out =>
    Ev.step (f := fun _ => some _) (fun k => by rw [span_told.l0, if_neg (by decide)]) (Ev.now _)
  unfold span_told.f toldP
  by_cases c1 : 1048576 ≤ n
  · rw [if_pos c1]
    refine told_app (by decide) (nib5 h0 h1) (by omega) (by omega) (.inr (.inl (by omega))) (by simp) ?_
    rw [show wrap64 ((20 : Int) - 4) = 16 from by decide +kernel]
    refine told_app (by decide) (nib4 h0 h1) (by omega) (by omega) (.inl (by simp)) (by simp) ?_
    rw [show wrap64 ((16 : Int) - 4) = 12 from by decide +kernel]
    refine told_app (by decide) (nib3 h0 h1) (by omega) (by omega) (.inl (by simp)) (by simp) ?_
    rw [show wrap64 ((12 : Int) - 4) = 8 from by decide +kernel]
    refine told_app (by decide) (nib2 h0 h1) (by omega) (by omega) (.inl (by simp)) (by simp) ?_
    rw [show wrap64 ((8 : Int) - 4) = 4 from by decide +kernel]
    refine told_app (by decide) (nib1 h0 h1) (by omega) (by omega) (.inl (by simp)) (by simp) ?_
    rw [show wrap64 ((4 : Int) - 4) = 0 from by decide +kernel]
    refine told_app (by decide) (nib0 h0 h1) (by omega) (by omega) (.inl (by simp)) (by simp) ?_
    rw [show wrap64 ((0 : Int) - 4) = -4 from by decide +kernel]
    exact fin _
  · rw [if_neg c1]
    by_cases c2 : 65536 ≤ n
    · rw [if_pos c2]
      refine told_skip (by decide) (by rw [nib5 h0 h1]; omega) ?_
      rw [show wrap64 ((20 : Int) - 4) = 16 from by decide +kernel]
      refine told_app (by decide) (nib4 h0 h1) (by omega) (by omega) (.inr (.inl (by omega))) (by simp) ?_
      rw [show wrap64 ((16 : Int) - 4) = 12 from by decide +kernel]
      refine told_app (by decide) (nib3 h0 h1) (by omega) (by omega) (.inl (by simp)) (by simp) ?_
      rw [show wrap64 ((12 : Int) - 4) = 8 from by decide +kernel]
      refine told_app (by decide) (nib2 h0 h1) (by omega) (by omega) (.inl (by simp)) (by simp) ?_
      rw [show wrap64 ((8 : Int) - 4) = 4 from by decide +kernel]
      refine told_app (by decide) (nib1 h0 h1) (by omega) (by omega) (.inl (by simp)) (by simp) ?_
      rw [show wrap64 ((4 : Int) - 4) = 0 from by decide +kernel]
      refine told_app (by decide) (nib0 h0 h1) (by omega) (by omega) (.inl (by simp)) (by simp) ?_
      rw [show wrap64 ((0 : Int) - 4) = -4 from by decide +kernel]
      exact fin _
    · rw [if_neg c2]
      refine told_skip (by decide) (by rw [nib5 h0 h1]; omega) ?_
      rw [show wrap64 ((20 : Int) - 4) = 16 from by decide +kernel]
      refine told_skip (by decide) (by rw [nib4 h0 h1]; omega) ?_
      rw [show wrap64 ((16 : Int) - 4) = 12 from by decide +kernel]
      refine told_app (by decide) (nib3 h0 h1) (by omega) (by omega) (.inr (.inr (by decide))) (by simp) ?_
      rw [show wrap64 ((12 : Int) - 4) = 8 from by decide +kernel]
      refine told_app (by decide) (nib2 h0 h1) (by omega) (by omega) (.inl (by simp)) (by simp) ?_
      rw [show wrap64 ((8 : Int) - 4) = 4 from by decide +kernel]
      refine told_app (by decide) (nib1 h0 h1) (by omega) (by omega) (.inl (by simp)) (by simp) ?_
      rw [show wrap64 ((4 : Int) - 4) = 0 from by decide +kernel]
      refine told_app (by decide) (nib0 h0 h1) (by omega) (by omega) (.inl (by simp)) (by simp) ?_
      rw [show wrap64 ((0 : Int) - 4) = -4 from by decide +kernel]
      exact fin _

end Go.Proofs.Ytkpdccegamcppaa.PSpan

/-! ### XHex: A number told in digits: the document's Hex. -/
namespace Go.Proofs.Ytkpdccegamcppaa.PSpan
open Go.RowKit Go.Proofs.YtkpdccegamcppaaW.PrintWords Go.Proofs.YtkpdccegamcppaaW.PrintLast Go.Proofs.YtkpdccegamcppaaW.PrintMore Go.Proofs.Ytkpdccegamcppaa.SpanP
set_option linter.unusedVariables false
set_option linter.unusedSimpArgs false

def oneB (d : Int) : ByteArray := hex16.extract (d : Int).toNat ((wrap32 (d + 1)) : Int).toNat
theorem one_all : ∀ d : Fin 16, oneB ((d.val : Nat) : Int) = strOfNums [bt hex16 ((d.val : Nat) : Int)] := by decide +kernel
theorem one_eq {d : Int} (h0 : 0 ≤ d) (h1 : d < 16) : oneB d = strOfNums [bt hex16 d] := by
  have := one_all ⟨d.toNat, by omega⟩
  simpa [Int.toNat_of_nonneg h0] using this
theorem strOf_cons (x : Int) (l : List Int) : strOfNums [x] ++ strOfNums l = strOfNums (x :: l) := by
  apply ByteArray.ext
  simp [strOfNums]
theorem hex_step {n i : Int} {l : List Int} {r : ByteArray} (h0 : 0 ≤ n) (h1 : n ≤ 1114111) (hc : i < 4 ∨ 0 < n) (hi0 : 0 ≤ i) (hi : i ≤ 10) (hl : (strOfNums l).size ≤ 100)
    (h : Ev (fun k => posternref07_Hex.l0 k (n / 16) (strOfNums (bt hex16 (n % 16) :: l)) (i + 1)) r) : Ev (fun k => posternref07_Hex.l0 k n (strOfNums l) i) r := by
  have e1 : Int.tmod n 16 = n % 16 := Int.tmod_eq_emod_of_nonneg h0
  have e2 : Int.tdiv n 16 = n / 16 := Int.tdiv_eq_ediv_of_nonneg h0
  have e3 : wrap32 (n / 16) = n / 16 := by unfold wrap32; omega
  have e4 : wrap64 (i + 1) = i + 1 := by unfold wrap64; omega
  have e5 : wrap32 (n % 16 + 1) = n % 16 + 1 := by unfold wrap32; omega
  have e6 := one_eq (d := n % 16) (by omega) (by omega)
  have e7 : (oneB (n % 16)).size ≤ 16 := by unfold oneB; simp [ByteArray.size_extract]; omega
  have body : ∀ k, (if 0 ≤ Int.tmod n 16 then (if (Int.tmod n 16) ≤ (wrap32 ((Int.tmod n 16) + 1)) then (if (wrap32 ((Int.tmod n 16) + 1)) ≤ 16 then (if (oneB (Int.tmod n 16)).size + (strOfNums l).size ≤ 9223372036854775807 then (posternref07_Hex.l0 k (wrap32 (Int.tdiv n 16)) (oneB (Int.tmod n 16) ++ strOfNums l) (wrap64 (i + 1))) else none) else none) else none) else none) = posternref07_Hex.l0 k (n / 16) (strOfNums (bt hex16 (n % 16) :: l)) (i + 1) := fun k => by
    rw [e1, e2, e3, e4, e5, if_pos (by omega), if_pos (by omega), if_pos (by omega), if_pos (by omega), e6, strOf_cons]
  refine Ev.step (fun k => ?_) h
  rw [posternref07_Hex.l0]
  by_cases c : i < 4
  · rw [if_pos c]
    exact body k
  · rw [if_neg c, if_pos (show n > 0 by omega)]
    exact body k
theorem hex_ev {n : Int} (h0 : 0 ≤ n) (h1 : n ≤ 1114111) : Ev (fun k => posternref07_Hex.f k n) (strOfNums (toldP n)) := by
  have fin : ∀ (l : List Int) (i : Int), 4 ≤ i → Ev (fun k => posternref07_Hex.l0 k 0 (strOfNums l) i) (strOfNums l) := fun l i hi =>
    Ev.step (f := fun _ => some _) (fun k => by rw [posternref07_Hex.l0, if_neg (by omega), if_neg (by decide)]) (Ev.now _)
  have sz : ∀ l : List Int, (strOfNums l).size = l.length := fun l => by simp [strOfNums, ByteArray.size]
  have d2 : n / 16 / 16 = n / 256 := by omega
  have d3 : n / 256 / 16 = n / 4096 := by omega
  have d4 : n / 4096 / 16 = n / 65536 := by omega
  have d5 : n / 65536 / 16 = n / 1048576 := by omega
  have d6 : n / 1048576 / 16 = 0 := by omega
  have d0 : n / 1 = n := by omega
  show Ev (fun k => posternref07_Hex.l0 k n (strOfNums []) 0) _
  refine hex_step h0 h1 (.inl (by decide)) (by decide) (by decide) (by rw [sz]; simp) ?_
  refine hex_step (by omega) (by omega) (.inl (by decide)) (by decide) (by decide) (by rw [sz]; simp) ?_
  rw [d2]
  refine hex_step (by omega) (by omega) (.inl (by decide)) (by decide) (by decide) (by rw [sz]; simp) ?_
  rw [d3]
  refine hex_step (by omega) (by omega) (.inl (by decide)) (by decide) (by decide) (by rw [sz]; simp) ?_
  rw [d4]
  unfold toldP
  rw [d0]
  by_cases c1 : 1048576 ≤ n
  · rw [if_pos c1]
    refine hex_step (by omega) (by omega) (.inr (by omega)) (by decide) (by decide) (by rw [sz]; simp) ?_
    rw [d5]
    refine hex_step (by omega) (by omega) (.inr (by omega)) (by decide) (by decide) (by rw [sz]; simp) ?_
    rw [d6]
    exact fin _ _ (by decide)
  · rw [if_neg c1]
    by_cases c2 : 65536 ≤ n
    · rw [if_pos c2]
      refine hex_step (by omega) (by omega) (.inr (by omega)) (by decide) (by decide) (by rw [sz]; simp) ?_
      rw [d5, show n / 1048576 = 0 by omega]
      exact fin _ _ (by decide)
    · rw [if_neg c2, show n / 65536 = 0 by omega]
      exact fin _ _ (by decide)

end Go.Proofs.Ytkpdccegamcppaa.PSpan

/-! ### XNmT: What is read as a number is told so, and what is told is read. -/
namespace Go.Proofs.Ytkpdccegamcppaa.PSpan
open Go.RowKit Go.Proofs.YtkpdccegamcppaaW.PrintWords Go.Proofs.YtkpdccegamcppaaW.PrintLast Go.Proofs.YtkpdccegamcppaaW.PrintMore Go.Proofs.Ytkpdccegamcppaa.SpanP
set_option linter.unusedVariables false
set_option linter.unusedSimpArgs false

/-- A list of bytes stands in a text, from a place on. -/
def Stands (s : ByteArray) : Int → List Int → Prop
  | _, [] => True
  | i, x :: l => (i < (s.size : Int) ∧ bt s i = x) ∧ Stands s (i + 1) l
theorem Stands.app {s : ByteArray} : ∀ {a b : List Int} {i : Int}, Stands s i (a ++ b) ↔ Stands s i a ∧ Stands s (i + (a.length : Int)) b
  | [], b, i => by simp [Stands]
  | x :: a, b, i => by
    have ih := Stands.app (s := s) (a := a) (b := b) (i := i + 1)
    simp only [List.cons_append, Stands, List.length_cons]
    rw [ih, show i + ((a.length + 1 : Nat) : Int) = i + 1 + (a.length : Int) by omega]
    constructor
    · rintro ⟨h1, h2, h3⟩; exact ⟨⟨h1, h2⟩, h3⟩
    · rintro ⟨⟨h1, h2⟩, h3⟩; exact ⟨h1, h2, h3⟩
theorem dg_hex {d : Int} (h0 : 0 ≤ d) (h1 : d < 16) : dg (bt hex16 d) = d := by
  have := (hex_dg d.toNat (by omega) (bt hex16 d)).1 (by rw [Int.toNat_of_nonneg h0])
  rw [Int.toNat_of_nonneg h0] at this
  exact this
theorem hex_of {c : Int} (h : ¬ dg c < 0) : c = bt hex16 (dg c) := by
  have hr := dg_rng c
  have := (hex_dg (dg c).toNat (by omega) c).2 (by rw [Int.toNat_of_nonneg (by omega)])
  rw [Int.toNat_of_nonneg (by omega)] at this
  exact this.symm
theorem nm_step {s : ByteArray} {least n i d m : Int} {f sz : Nat} (hi : i < (s.size : Int)) (hb : bt s i = bt hex16 d) (h0 : 0 ≤ d) (h1 : d < 16) (hm : 16 * n + d = m) (hh : hopeB (sz + 1) m least = true) :
    nm s least (f + 1) sz n i = nm s least f (sz + 1) m (i + 1) := by
  have e : dg (bt s i) = d := by rw [hb, dg_hex h0 h1]
  rw [nm, if_pos hi, e, if_neg (by omega), hm, if_pos hh]
theorem nm_stop {s : ByteArray} {least n i : Int} {f sz : Nat} (h : ¬ i < (s.size : Int) ∨ dg (bt s i) < 0) : nm s least f sz n i = (i, n, sz) := by
  cases f with
  | zero => rfl
  | succ f =>
    rw [nm]
    rcases h with h | h
    · rw [if_neg h]
    · by_cases hc : i < (s.size : Int)
      · rw [if_pos hc, if_pos h]
      · rw [if_neg hc]
theorem ok_of {n least w low high : Int} (h1 : low ≤ n * w + (w - 1)) (h2 : least ≤ n * w + (w - 1)) (h3 : n * w ≤ high) (h4 : least ≤ high) : okN n least w low high = true := by
  unfold okN
  rw [decide_eq_true h1, decide_eq_true h2, decide_eq_true h3, decide_eq_true h4]
  rfl
theorem nm_told {s : ByteArray} {least n a : Int} (h0 : 0 ≤ n) (h1 : n ≤ 1114111) (hl : least ≤ n) (hs : Stands s a (toldP n))
    (he : ¬ a + ((toldP n).length : Int) < (s.size : Int) ∨ dg (bt s (a + ((toldP n).length : Int))) < 0) :
    ∃ sz, nm s least 6 0 0 a = (a + ((toldP n).length : Int), n, sz) ∧ wholeB sz n least = true := by
  unfold toldP at hs he ⊢
  by_cases c1 : 1048576 ≤ n
  · rw [if_pos c1] at hs he ⊢
    obtain ⟨s1, s2, s3, s4, s5, s6, _⟩ := hs
    refine ⟨6, ?_, decide_eq_true ⟨c1, hl, h1⟩⟩
    refine (nm_step (m := n / 1048576) s1.1 s1.2 (by omega) (by omega) (by omega) ?_).trans ?_
    · exact Bool.or_eq_true_iff.2 (.inr (ok_of (by omega) (by omega) (by omega) (by omega)))
    refine (nm_step (m := n / 65536) s2.1 s2.2 (by omega) (by omega) (by omega) ?_).trans ?_
    · exact Bool.or_eq_true_iff.2 (.inr (ok_of (by omega) (by omega) (by omega) (by omega)))
    refine (nm_step (m := n / 4096) s3.1 s3.2 (by omega) (by omega) (by omega) ?_).trans ?_
    · exact Bool.or_eq_true_iff.2 (.inr (ok_of (by omega) (by omega) (by omega) (by omega)))
    refine (nm_step (m := n / 256) s4.1 s4.2 (by omega) (by omega) (by omega) ?_).trans ?_
    · exact Bool.or_eq_true_iff.2 (.inr (ok_of (by omega) (by omega) (by omega) (by omega)))
    refine (nm_step (m := n / 16) s5.1 s5.2 (by omega) (by omega) (by omega) ?_).trans ?_
    · exact Bool.or_eq_true_iff.2 (.inr (ok_of (by omega) (by omega) (by omega) (by omega)))
    refine (nm_step (m := n) s6.1 s6.2 (by omega) (by omega) (by omega) ?_).trans ?_
    · exact ok_of (by omega) (by omega) (by omega) (by omega)
    show (a + 1 + 1 + 1 + 1 + 1 + 1, n, 6) = (a + 6, n, 6)
    rw [show a + 1 + 1 + 1 + 1 + 1 + 1 = a + 6 by omega]
  rw [if_neg c1] at hs he ⊢
  by_cases c2 : 65536 ≤ n
  · rw [if_pos c2] at hs he ⊢
    obtain ⟨s2, s3, s4, s5, s6, _⟩ := hs
    refine ⟨5, ?_, decide_eq_true ⟨c2, hl⟩⟩
    refine (nm_step (m := n / 65536) s2.1 s2.2 (by omega) (by omega) (by omega) ?_).trans ?_
    · exact Bool.or_eq_true_iff.2 (.inl (Bool.or_eq_true_iff.2 (.inr (ok_of (by omega) (by omega) (by omega) (by omega)))))
    refine (nm_step (m := n / 4096) s3.1 s3.2 (by omega) (by omega) (by omega) ?_).trans ?_
    · exact Bool.or_eq_true_iff.2 (.inl (Bool.or_eq_true_iff.2 (.inr (ok_of (by omega) (by omega) (by omega) (by omega)))))
    refine (nm_step (m := n / 256) s4.1 s4.2 (by omega) (by omega) (by omega) ?_).trans ?_
    · exact Bool.or_eq_true_iff.2 (.inl (Bool.or_eq_true_iff.2 (.inr (ok_of (by omega) (by omega) (by omega) (by omega)))))
    refine (nm_step (m := n / 16) s5.1 s5.2 (by omega) (by omega) (by omega) ?_).trans ?_
    · exact Bool.or_eq_true_iff.2 (.inl (Bool.or_eq_true_iff.2 (.inr (ok_of (by omega) (by omega) (by omega) (by omega)))))
    refine (nm_step (m := n) s6.1 s6.2 (by omega) (by omega) (by omega) ?_).trans ?_
    · exact Bool.or_eq_true_iff.2 (.inl (ok_of (by omega) (by omega) (by omega) (by omega)))
    have ea : a + 1 + 1 + 1 + 1 + 1 = a + 5 := by omega
    rw [ea]
    exact nm_stop he
  · rw [if_neg c2] at hs he ⊢
    obtain ⟨s3, s4, s5, s6, _⟩ := hs
    refine ⟨4, ?_, decide_eq_true hl⟩
    refine (nm_step (m := n / 4096) s3.1 s3.2 (by omega) (by omega) (by omega) ?_).trans ?_
    · exact Bool.or_eq_true_iff.2 (.inl (Bool.or_eq_true_iff.2 (.inl (ok_of (by omega) (by omega) (by omega) (by omega)))))
    refine (nm_step (m := n / 256) s4.1 s4.2 (by omega) (by omega) (by omega) ?_).trans ?_
    · exact Bool.or_eq_true_iff.2 (.inl (Bool.or_eq_true_iff.2 (.inl (ok_of (by omega) (by omega) (by omega) (by omega)))))
    refine (nm_step (m := n / 16) s5.1 s5.2 (by omega) (by omega) (by omega) ?_).trans ?_
    · exact Bool.or_eq_true_iff.2 (.inl (Bool.or_eq_true_iff.2 (.inl (ok_of (by omega) (by omega) (by omega) (by omega)))))
    refine (nm_step (m := n) s6.1 s6.2 (by omega) (by omega) (by omega) ?_).trans ?_
    · exact Bool.or_eq_true_iff.2 (.inl (Bool.or_eq_true_iff.2 (.inl (ok_of (by omega) (by omega) (by omega) (by omega)))))
    have ea : a + 1 + 1 + 1 + 1 = a + 4 := by omega
    rw [ea]
    exact nm_stop he

/-- So many digits of a number. -/
def digs : Nat → Int → List Int
  | 0, _ => []
  | k + 1, n => digs k (n / 16) ++ [bt hex16 (n % 16)]
theorem digs_len : ∀ (k : Nat) (n : Int), (digs k n).length = k
  | 0, _ => rfl
  | k + 1, n => by simp [digs, digs_len k]
theorem nm_digs (s : ByteArray) (least a : Int) : ∀ (f sz : Nat) (n i : Int), i = a + (sz : Int) → Stands s a (digs sz n) →
    Stands s a (digs (nm s least f sz n i).2.2 (nm s least f sz n i).2.1) ∧ (nm s least f sz n i).1 = a + ((nm s least f sz n i).2.2 : Int) := by
  intro f
  induction f with
  | zero => intro sz n i hi h; exact ⟨h, hi⟩
  | succ f ih =>
    intro sz n i hi h
    have hr := dg_rng (bt s i)
    rw [nm]
    by_cases hc : i < (s.size : Int)
    · rw [if_pos hc]
      by_cases hd : dg (bt s i) < 0
      · rw [if_pos hd]; exact ⟨h, hi⟩
      · rw [if_neg hd]
        by_cases hh : hopeB (sz + 1) (16 * n + dg (bt s i)) least = true
        · rw [if_pos hh]
          refine ih (sz + 1) _ (i + 1) (by omega) ?_
          rw [digs, show (16 * n + dg (bt s i)) / 16 = n by omega, show (16 * n + dg (bt s i)) % 16 = dg (bt s i) by omega]
          refine Stands.app.2 ⟨h, ?_⟩
          rw [digs_len, ← hi]
          exact ⟨⟨hc, hex_of hd⟩, trivial⟩
        · rw [if_neg hh]; exact ⟨h, hi⟩
    · rw [if_neg hc]; exact ⟨h, hi⟩
theorem digs_told {sz : Nat} {n least : Int} (h6 : sz ≤ 6) (h0 : 0 ≤ n) (hn : n < capN sz) (h : wholeB sz n least = true) : digs sz n = toldP n := by
  match sz, h6 with
  | 0, _ => cases h
  | 1, _ => cases h
  | 2, _ => cases h
  | 3, _ => cases h
  | 4, _ =>
    have h1 : n < 65536 := by simpa [capN] using hn
    unfold toldP
    rw [if_neg (by omega), if_neg (by omega)]
    simp only [digs, List.nil_append, List.cons_append]
    rw [show n / 16 / 16 / 16 = n / 4096 by omega, show n / 16 / 16 = n / 256 by omega, Int.ediv_one]
  | 5, _ =>
    have h1 : n < 1048576 := by simpa [capN] using hn
    have h2 : 65536 ≤ n ∧ least ≤ n := of_decide_eq_true h
    unfold toldP
    rw [if_neg (by omega), if_pos h2.1]
    simp only [digs, List.nil_append, List.cons_append]
    rw [show n / 16 / 16 / 16 / 16 = n / 65536 by omega, show n / 16 / 16 / 16 = n / 4096 by omega, show n / 16 / 16 = n / 256 by omega, Int.ediv_one]
  | 6, _ =>
    have h2 : 1048576 ≤ n ∧ least ≤ n ∧ n ≤ 1114111 := of_decide_eq_true h
    unfold toldP
    rw [if_pos h2.1]
    simp only [digs, List.nil_append, List.cons_append]
    rw [show n / 16 / 16 / 16 / 16 / 16 = n / 1048576 by omega, show n / 16 / 16 / 16 / 16 = n / 65536 by omega, show n / 16 / 16 / 16 = n / 4096 by omega, show n / 16 / 16 = n / 256 by omega, Int.ediv_one]
theorem nm_back {s : ByteArray} {least a : Int} (ha : a ≤ (s.size : Int)) (hw : wholeB (nm s least 6 0 0 a).2.2 (nm s least 6 0 0 a).2.1 least = true) :
    Stands s a (toldP (nm s least 6 0 0 a).2.1) ∧ (nm s least 6 0 0 a).1 = a + ((toldP (nm s least 6 0 0 a).2.1).length : Int) := by
  have hr := nm_rng s least 6 0 0 a (by omega) (by omega) (by decide) ha
  have hd := nm_digs s least a 6 0 0 a (by omega) trivial
  have ht := digs_told hr.2.2.2.2 hr.2.2.1 hr.2.2.2.1 hw
  rw [ht] at hd
  refine ⟨hd.1, ?_⟩
  rw [hd.2, ← ht, digs_len]

end Go.Proofs.Ytkpdccegamcppaa.PSpan
