/- A digit, as both find it. point and the document's number read alike. The document's number reads as point does. How far digits go on: where that ends. -/
import Derived.Test.YtkpdccegamcppaaXHope
import Derived.Test.YtkpdccegamcppaaXPoints
import Derived.Test.YtkpdccegamcppaaPSpanx22
/-! ### XDigit: A digit, as both find it. -/
namespace Go.Proofs.Ytkpdccegamcppaa.PSpan
open Go.RowKit Go.Proofs.YtkpdccegamcppaaW.PrintWords Go.Proofs.YtkpdccegamcppaaW.PrintLast Go.Proofs.YtkpdccegamcppaaW.PrintMore Go.Proofs.Ytkpdccegamcppaa.SpanP
set_option linter.unusedVariables false
set_option linter.unusedSimpArgs false

abbrev hex16 : ByteArray := ⟨#[48, 49, 50, 51, 52, 53, 54, 55, 56, 57, 65, 66, 67, 68, 69, 70]⟩
/-- What a byte says as a digit; none: -1. -/
def dg (c : Int) : Int := if 48 ≤ c ∧ c ≤ 57 then c - 48 else if 65 ≤ c ∧ c ≤ 70 then c - 55 else -1
theorem dg_rng (c : Int) : -1 ≤ dg c ∧ dg c ≤ 15 := by unfold dg; repeat' split <;> omega
theorem index_all : ∀ n : Fin 256, strings_IndexByte.f hex16 ((n.val : Nat) : Int) = some (dg ((n.val : Nat) : Int)) := by decide +kernel
theorem index_dg {c : Int} (h0 : 0 ≤ c) (h1 : c ≤ 255) : strings_IndexByte.f hex16 c = some (dg c) := by
  have := index_all ⟨c.toNat, by omega⟩
  simpa [Int.toNat_of_nonneg h0] using this
theorem hex_all : ∀ k : Fin 16, bt hex16 ((k.val : Nat) : Int) = if k.val < 10 then 48 + ((k.val : Nat) : Int) else 55 + ((k.val : Nat) : Int) := by decide +kernel
theorem hex_dg (k : Nat) (hk : k < 16) (c : Int) : bt hex16 (k : Int) = c ↔ dg c = (k : Int) := by
  have := hex_all ⟨k, hk⟩
  simp only at this
  rw [this]
  unfold dg
  repeat' split
  all_goals omega
/-- What number does behind its sixteen tests. -/
def numF (k : Nat) (x0 : ByteArray) (x1 x2 x9 x10 x11 : Int) : Option (Int × Int × Bool) := (if x11 < 0 then (if (wrap64 (x10 - x1)) ≥ 4 then (if x9 ≥ x2 then (if x9 ≤ 1114111 then (if (wrap64 (x10 - x1)) = 4 then (some (x10, x9, true)) else (if 0 ≤ (IntKind.u64.wrap (wrap64 (4 * (wrap64 ((wrap64 (x10 - x1)) - 1))))) then (some (x10, x9, decide (x9 ≥ (shl .i32 1 (IntKind.u64.wrap (wrap64 (4 * (wrap64 ((wrap64 (x10 - x1)) - 1))))))))) else (none))) else (some (x10, x9, false))) else (some (x10, x9, false))) else (some (x10, x9, false))) else ((posternref07_grows.f k (wrap32 ((wrap32 (16 * x9)) + x11)) (wrap64 ((wrap64 (x10 - x1)) + 1)) x2).bind fun t380 => (if t380 = true then (posternref07_number.l0 k x0 x1 x2 (wrap32 ((wrap32 (16 * x9)) + x11)) (wrap64 (x10 + 1))) else (if (wrap64 (x10 - x1)) ≥ 4 then (if x9 ≥ x2 then (if x9 ≤ 1114111 then (if (wrap64 (x10 - x1)) = 4 then (some (x10, x9, true)) else (if 0 ≤ (IntKind.u64.wrap (wrap64 (4 * (wrap64 ((wrap64 (x10 - x1)) - 1))))) then (some (x10, x9, decide (x9 ≥ (shl .i32 1 (IntKind.u64.wrap (wrap64 (4 * (wrap64 ((wrap64 (x10 - x1)) - 1))))))))) else (none))) else (some (x10, x9, false))) else (some (x10, x9, false))) else (some (x10, x9, false))))))
theorem digits_ev {s : ByteArray} {a low n i : Int} {r : Int × Int × Bool} (h0 : 0 ≤ i) (h1 : i < (s.size : Int)) (h : Ev (fun k => numF k s a low n i (dg (bt s i))) r) :
    Ev (fun k => posternref07_number.l1 k s a low n i (-1) 0) r := by
  have hr := dg_rng (bt s i)
  have : ∀ d j : Nat, j + d = 16 → Ev (fun k => posternref07_number.l1 k s a low n i (if dg (bt s i) < (j : Int) then dg (bt s i) else -1) (j : Int)) r := by
    intro d
    induction d with
    | zero =>
      intro j hj
      have e : (if dg (bt s i) < (j : Int) then dg (bt s i) else -1) = dg (bt s i) := if_pos (by omega)
      rw [e]
      refine Ev.step (fun k => ?_) h
      simp only [posternref07_number.l1]
      rw [if_neg (by omega)]
      rfl
    | succ d ih =>
      intro j hj
      have hj16 : j < 16 := by omega
      have hw : wrap32 ((j : Int) + 1) = ((j + 1 : Nat) : Int) := by unfold wrap32; omega
      have hx := hex_dg j hj16 (bt s i)
      refine Ev.step (fun k => ?_) (ih (j + 1) (by omega))
      simp only [posternref07_number.l1]
      rw [if_pos (by omega), if_pos (by omega), if_pos h0, if_pos h1, hw]
      by_cases hc : bt hex16 (j : Int) = bt s i
      · rw [if_pos hc]
        have := hx.1 hc
        rw [if_pos (show dg (bt s i) < ((j + 1 : Nat) : Int) by omega), this]
      · rw [if_neg hc]
        have hne : dg (bt s i) ≠ (j : Int) := fun e => hc (hx.2 e)
        by_cases h2 : dg (bt s i) < (j : Int)
        · rw [if_pos h2, if_pos (by omega)]
        · rw [if_neg h2, if_neg (by omega)]
  have h16 := this 16 0 rfl
  by_cases h2 : dg (bt s i) < ((0 : Nat) : Int)
  · rw [if_pos h2] at h16
    rw [show dg (bt s i) = -1 by omega] at h16
    exact h16
  · rw [if_neg h2] at h16
    exact h16

end Go.Proofs.Ytkpdccegamcppaa.PSpan

/-! ### XNumber: point and the document's number read alike. -/
namespace Go.Proofs.Ytkpdccegamcppaa.PSpan
open Go.RowKit Go.Proofs.YtkpdccegamcppaaW.PrintWords Go.Proofs.YtkpdccegamcppaaW.PrintLast Go.Proofs.YtkpdccegamcppaaW.PrintMore Go.Proofs.Ytkpdccegamcppaa.SpanP
set_option linter.unusedVariables false
set_option linter.unusedSimpArgs false

/-- How far digits go on: the place, the number, how many. -/
def nm (s : ByteArray) (least : Int) : Nat → Nat → Int → Int → Int × Int × Nat
  | 0, sz, n, i => (i, n, sz)
  | f + 1, sz, n, i => if i < (s.size : Int) then (if dg (bt s i) < 0 then (i, n, sz) else if hopeB (sz + 1) (16 * n + dg (bt s i)) least = true then nm s least f (sz + 1) (16 * n + dg (bt s i)) (i + 1) else (i, n, sz)) else (i, n, sz)
def wholeB (sz : Nat) (n least : Int) : Bool := match sz with
  | 4 => decide (least ≤ n)
  | 5 => decide (65536 ≤ n ∧ least ≤ n)
  | 6 => decide (1048576 ≤ n ∧ least ≤ n ∧ n ≤ 1114111)
  | _ => false
/-- As many digits as that say no more than that. -/
def capN (sz : Nat) : Int := 16 ^ sz
theorem cap_succ (sz : Nat) : capN (sz + 1) = 16 * capN sz := by unfold capN; rw [Int.pow_succ, Int.mul_comm]
theorem cap_le {sz : Nat} (h : sz ≤ 6) : capN sz ≤ 16777216 := by
  match sz, h with
  | 0, _ => decide
  | 1, _ => decide
  | 2, _ => decide
  | 3, _ => decide
  | 4, _ => decide
  | 5, _ => decide
  | 6, _ => decide
theorem hopes_ev {sz : Nat} (h1 : 1 ≤ sz) (h6 : sz ≤ 6) {n : Int} (least : Int) (h0 : 0 ≤ n) (hn : n < capN sz) : Ev (fun k => span_hopes.f k n (sz : Int) least) (hopeB sz n least) := by
  match sz, h1, h6 with
  | 1, _, _ => exact hopes1 least h0 (by simpa [capN] using hn)
  | 2, _, _ => exact hopes2 least h0 (by simpa [capN] using hn)
  | 3, _, _ => exact hopes3 least h0 (by simpa [capN] using hn)
  | 4, _, _ => exact hopes4 least h0 (by simpa [capN] using hn)
  | 5, _, _ => exact hopes5 least h0 (by simpa [capN] using hn)
  | 6, _, _ => exact hopes6 least h0 (by simpa [capN] using hn)
theorem grows_ev {sz : Nat} (h1 : 1 ≤ sz) (h6 : sz ≤ 6) {n : Int} (least : Int) (h0 : 0 ≤ n) (hn : n < capN sz) : Ev (fun k => posternref07_grows.f k n (sz : Int) least) (hopeB sz n least) := by
  match sz, h1, h6 with
  | 1, _, _ => exact grows1 least h0 (by simpa [capN] using hn)
  | 2, _, _ => exact grows2 least h0 (by simpa [capN] using hn)
  | 3, _, _ => exact grows3 least h0 (by simpa [capN] using hn)
  | 4, _, _ => exact grows4 least h0 (by simpa [capN] using hn)
  | 5, _, _ => exact grows5 least h0 (by simpa [capN] using hn)
  | 6, _, _ => exact grows6 least h0 (by simpa [capN] using hn)
theorem whole_b (n sz least low high : Int) (h : span_bounds.f sz = some (low, high)) (h4 : ¬ sz < 4) (h6 : ¬ sz > 6) (hl : low ≤ high) : span_whole.f n sz least = some (decide (low ≤ n ∧ least ≤ n ∧ n ≤ high)) := by
  unfold span_whole.f
  rw [if_neg h4, if_neg h6, h]
  simp only [Option.bind_some]
  by_cases hc : n ≥ mx low least
  · rw [if_pos hc]
    congr 1
    rw [decide_eq_decide]
    unfold mx at hc
    constructor
    · intro h
      split at hc <;> exact ⟨by omega, by omega, h⟩
    · exact fun h => h.2.2
  · rw [if_neg hc]
    congr 1
    symm
    rw [decide_eq_false_iff_not]
    intro h
    unfold mx at hc
    split at hc <;> omega
theorem whole_f {sz : Nat} (h6 : sz ≤ 6) {n : Int} (least : Int) (h0 : 0 ≤ n) (hn : n < capN sz) : span_whole.f n (sz : Int) least = some (wholeB sz n least) := by
  match sz, h6 with
  | 0, _ => rfl
  | 1, _ => rfl
  | 2, _ => rfl
  | 3, _ => rfl
  | 4, _ =>
    have : n < 65536 := by simpa [capN] using hn
    rw [show ((4 : Nat) : Int) = 4 from rfl, whole_b n 4 least 0 65535 bounds4 (by decide) (by decide) (by decide)]
    congr 1
    show decide _ = decide (least ≤ n)
    rw [decide_eq_decide]
    omega
  | 5, _ =>
    have : n < 1048576 := by simpa [capN] using hn
    rw [show ((5 : Nat) : Int) = 5 from rfl, whole_b n 5 least 65536 1048575 bounds5 (by decide) (by decide) (by decide)]
    congr 1
    show decide _ = decide (65536 ≤ n ∧ least ≤ n)
    rw [decide_eq_decide]
    omega
  | 6, _ =>
    rw [show ((6 : Nat) : Int) = 6 from rfl, whole_b n 6 least 1048576 1114111 bounds6 (by decide) (by decide) (by decide)]
    rfl
theorem point_j (s : ByteArray) (least n i : Int) (sz : Nat) (h6 : sz < 6) (h0 : 0 ≤ n) (hn : n < capN sz) (hi0 : 0 ≤ i) (hc : i < (s.size : Int)) (hs : s.size ≤ 1099511627776) (k : Nat) :
    span_reader_point.j1 (k + 1) least n (sz : Int) true s i = if dg (bt s i) < 0 then (span_whole.f n (sz : Int) least).bind fun t => some (n, t, s, i) else (span_hopes.f k (16 * n + dg (bt s i)) ((sz + 1 : Nat) : Int) least).bind fun t => if t = true then span_reader_point.l0 k least (16 * n + dg (bt s i)) ((sz + 1 : Nat) : Int) s (i + 1) else (span_whole.f n (sz : Int) least).bind fun t => some (n, t, s, i) := by
  have hb := bt_range s i
  have hx := index_dg hb.1 hb.2
  have hr := dg_rng (bt s i)
  have hcap := cap_le (show sz ≤ 6 by omega)
  rw [span_reader_point.j1, if_pos rfl, if_pos hi0, if_pos hc]
  refine (congrArg (fun o => Option.bind o _) hx).trans ?_
  show (if dg (bt s i) < 0 then _ else _) = _
  by_cases hd : dg (bt s i) < 0
  · rw [if_pos hd, if_pos hd]
  · have hor : Go.bits .or .i32 (wrap32 (n * 16)) (wrap32 (dg (bt s i))) = 16 * n + dg (bt s i) := by
      rw [show wrap32 (n * 16) = n * 16 from by unfold wrap32; omega, show wrap32 (dg (bt s i)) = dg (bt s i) from by unfold wrap32; omega, Int.mul_comm 16 n]
      exact bits_join .i32 31 (by decide) wraps_i32 4 (n * 16) (dg (bt s i)) (by omega) (by omega) (by omega) (by omega) (by omega) (by omega)
    have hsz : wrap64 ((sz : Int) + 1) = ((sz + 1 : Nat) : Int) := by unfold wrap64; omega
    have hi2 : wrap64 (i + 1) = i + 1 := by unfold wrap64; omega
    rw [if_neg hd, if_neg hd, hor, hsz, hi2]
theorem point_ev (s : ByteArray) (hs : s.size ≤ 1099511627776) (least : Int) : ∀ (f sz : Nat) (n i : Int), f + sz = 6 → 0 ≤ n → n < capN sz → 0 ≤ i → i ≤ (s.size : Int) →
    Ev (fun k => span_reader_point.l0 k least n (sz : Int) s i) ((nm s least f sz n i).2.1, wholeB (nm s least f sz n i).2.2 (nm s least f sz n i).2.1 least, s, (nm s least f sz n i).1) := by
  intro f
  induction f with
  | zero =>
    intro sz n i hf h0 hn hi0 hi1
    obtain rfl : sz = 6 := by omega
    have hw := whole_f (Nat.le_refl 6) least h0 hn
    have fin : Ev (fun k => span_reader_point.j1 k least n ((6 : Nat) : Int) false s i) (n, wholeB 6 n least, s, i) :=
      Ev.step (f := fun _ => some _) (fun k => by simp only [span_reader_point.j1]; rw [if_neg (by decide), hw]; rfl) (Ev.now _)
    by_cases hc : i < (s.size : Int)
    · exact Ev.step (fun k => by simp only [span_reader_point.l0]; rw [if_pos hc]; rfl) fin
    · exact Ev.step (fun k => by simp only [span_reader_point.l0]; rw [if_neg hc]) fin
  | succ f ih =>
    intro sz n i hf h0 hn hi0 hi1
    have hw := whole_f (show sz ≤ 6 by omega) least h0 hn
    have fin : Ev (fun k => span_reader_point.j1 k least n (sz : Int) false s i) (n, wholeB sz n least, s, i) :=
      Ev.step (f := fun _ => some _) (fun k => by simp only [span_reader_point.j1]; rw [if_neg (by decide), hw]; rfl) (Ev.now _)
    by_cases hc : i < (s.size : Int)
    · have h6 : sz < 6 := by omega
      have h6' : (sz : Int) < 6 := by omega
      have hr := dg_rng (bt s i)
      have hcap2 := cap_succ sz
      have hJ := point_j s least n i sz h6 h0 hn hi0 hc hs
      have hu : nm s least (f + 1) sz n i = if dg (bt s i) < 0 then (i, n, sz) else if hopeB (sz + 1) (16 * n + dg (bt s i)) least = true then nm s least f (sz + 1) (16 * n + dg (bt s i)) (i + 1) else (i, n, sz) := by
        rw [nm, if_pos hc]
      rw [hu]
      have go : ∀ r, Ev (fun k => span_reader_point.j1 k least n (sz : Int) true s i) r → Ev (fun k => span_reader_point.l0 k least n (sz : Int) s i) r := fun r h =>
        Ev.step (fun k => by simp only [span_reader_point.l0]; rw [if_pos hc, decide_eq_true h6']) h
      by_cases hd : dg (bt s i) < 0
      · rw [if_pos hd]
        exact go _ (Ev.step (f := fun _ => some _) (fun k => by rw [hJ k, if_pos hd, hw]; rfl) (Ev.now _))
      · rw [if_neg hd]
        have hh := hopes_ev (sz := sz + 1) (by omega) (by omega) (n := 16 * n + dg (bt s i)) least (by omega) (by omega)
        have last : Ev (fun k => (span_whole.f n (sz : Int) least).bind fun t => some (n, t, s, i)) (n, wholeB sz n least, s, i) := Ev.congr (fun k => by rw [hw]; rfl) (Ev.now _)
        have hi := ih (sz + 1) (16 * n + dg (bt s i)) (i + 1) (by omega) (by omega) (by omega) (by omega) (by omega)
        cases e : hopeB (sz + 1) (16 * n + dg (bt s i)) least with
        | true =>
          rw [if_pos rfl]
          rw [e] at hh
          exact go _ (Ev.step (fun k => by rw [hJ k, if_neg hd]) (Ev.bind hh (Ev.ite_t hi)))
        | false =>
          rw [if_neg (by decide)]
          rw [e] at hh
          exact go _ (Ev.step (fun k => by rw [hJ k, if_neg hd]) (Ev.bind hh (Ev.ite_f last)))
    · rw [nm, if_neg hc]
      exact Ev.step (fun k => by simp only [span_reader_point.l0]; rw [if_neg hc]) fin

end Go.Proofs.Ytkpdccegamcppaa.PSpan

/-! ### XNumberQ: The document's number reads as point does. -/
namespace Go.Proofs.Ytkpdccegamcppaa.PSpan
open Go.RowKit Go.Proofs.YtkpdccegamcppaaW.PrintWords Go.Proofs.YtkpdccegamcppaaW.PrintLast Go.Proofs.YtkpdccegamcppaaW.PrintMore Go.Proofs.Ytkpdccegamcppaa.SpanP
set_option linter.unusedVariables false
set_option linter.unusedSimpArgs false

/-- The document's last test, of z digits. -/
def FT (n i low z : Int) : Option (Int × Int × Bool) := if z ≥ 4 then (if n ≥ low then (if n ≤ 1114111 then (if z = 4 then (some (i, n, true)) else (if 0 ≤ (IntKind.u64.wrap (wrap64 (4 * (wrap64 (z - 1))))) then (some (i, n, decide (n ≥ (shl .i32 1 (IntKind.u64.wrap (wrap64 (4 * (wrap64 (z - 1))))))))) else (none))) else (some (i, n, false))) else (some (i, n, false))) else (some (i, n, false))
theorem ft_eq {sz : Nat} (h6 : sz ≤ 6) {n : Int} (i low : Int) (h0 : 0 ≤ n) (hn : n < capN sz) : FT n i low (sz : Int) = some (i, n, wholeB sz n low) := by
  match sz, h6 with
  | 0, _ => rfl
  | 1, _ => rfl
  | 2, _ => rfl
  | 3, _ => rfl
  | 4, _ =>
    have h : n < 65536 := by simpa [capN] using hn
    unfold FT
    rw [if_pos (by decide)]
    show _ = some (i, n, decide (low ≤ n))
    by_cases hl : low ≤ n
    · rw [if_pos hl, if_pos (by omega), if_pos (by decide), decide_eq_true hl]
    · rw [if_neg hl, decide_eq_false hl]
  | 5, _ =>
    have h : n < 1048576 := by simpa [capN] using hn
    unfold FT
    rw [if_pos (by decide)]
    show _ = some (i, n, decide (65536 ≤ n ∧ low ≤ n))
    by_cases hl : low ≤ n
    · rw [if_pos hl, if_pos (by omega), if_neg (by decide), if_pos (by decide +kernel), show shl .i32 1 (IntKind.u64.wrap (wrap64 (4 * wrap64 (((5 : Nat) : Int) - 1)))) = 65536 from by decide +kernel]
      congr 3
      rw [decide_eq_decide]
      omega
    · rw [if_neg hl, decide_eq_false (fun h => hl h.2)]
  | 6, _ =>
    unfold FT
    rw [if_pos (by decide)]
    show _ = some (i, n, decide (1048576 ≤ n ∧ low ≤ n ∧ n ≤ 1114111))
    by_cases hl : low ≤ n
    · rw [if_pos hl]
      by_cases hm : n ≤ 1114111
      · rw [if_pos hm, if_neg (by decide), if_pos (by decide +kernel), show shl .i32 1 (IntKind.u64.wrap (wrap64 (4 * wrap64 (((6 : Nat) : Int) - 1)))) = 1048576 from by decide +kernel]
        congr 3
        rw [decide_eq_decide]
        omega
      · rw [if_neg hm, decide_eq_false (fun h => hm h.2.2)]
    · rw [if_neg hl, decide_eq_false (fun h => hl h.2.1)]
theorem numF_eq (k : Nat) (s : ByteArray) (a low n i d : Int) (sz : Nat) (hz : wrap64 (i - a) = (sz : Int)) (h6 : sz < 6) (h0 : 0 ≤ n) (hn : n < capN sz) (hd : -1 ≤ d ∧ d ≤ 15) (hi0 : 0 ≤ i) (hi1 : i ≤ 1099511627776) :
    numF k s a low n i d = if d < 0 then FT n i low (sz : Int) else (posternref07_grows.f k (16 * n + d) ((sz + 1 : Nat) : Int) low).bind fun t => if t = true then posternref07_number.l0 k s a low (16 * n + d) (i + 1) else FT n i low (sz : Int) := by
  have hcap := cap_le (show sz ≤ 6 by omega)
  unfold numF FT
  rw [hz]
  by_cases h : d < 0
  · rw [if_pos h, if_pos h]
  · rw [if_neg h, if_neg h, show wrap32 (wrap32 (16 * n) + d) = 16 * n + d from by rw [show wrap32 (16 * n) = 16 * n from by unfold wrap32; omega]; unfold wrap32; omega, show wrap64 ((sz : Int) + 1) = ((sz + 1 : Nat) : Int) from by unfold wrap64; omega, show wrap64 (i + 1) = i + 1 from by unfold wrap64; omega]
theorem number_ev (s : ByteArray) (hs : s.size ≤ 1099511627776) (a low : Int) (ha : 0 ≤ a) : ∀ (f sz : Nat) (n i : Int), f + sz = 6 → 0 ≤ n → n < capN sz → i = a + (sz : Int) → i ≤ (s.size : Int) →
    Ev (fun k => posternref07_number.l0 k s a low n i) ((nm s low f sz n i).1, (nm s low f sz n i).2.1, wholeB (nm s low f sz n i).2.2 (nm s low f sz n i).2.1 low) := by
  have fin : ∀ (sz : Nat) (n i : Int), sz ≤ 6 → 0 ≤ n → n < capN sz → wrap64 (i - a) = (sz : Int) → Ev (fun k => posternref07_number.j1 k s a low n i false) (i, n, wholeB sz n low) := fun sz n i h6 h0 hn hz => by
    have hf := ft_eq h6 i low h0 hn
    refine Ev.step (f := fun _ => some _) (fun k => ?_) (Ev.now _)
    rw [posternref07_number.j1, if_neg (by decide), hz]
    exact hf
  intro f
  induction f with
  | zero =>
    intro sz n i hf h0 hn hi hi1
    obtain rfl : sz = 6 := by omega
    have hz : wrap64 (i - a) = ((6 : Nat) : Int) := by unfold wrap64; omega
    have hF := fin 6 n i (Nat.le_refl _) h0 hn hz
    by_cases hc : i < (s.size : Int)
    · exact Ev.step (fun k => by rw [posternref07_number.l0, if_pos hc, hz]; rfl) hF
    · exact Ev.step (fun k => by rw [posternref07_number.l0, if_neg hc]) hF
  | succ f ih =>
    intro sz n i hf h0 hn hi hi1
    have hz : wrap64 (i - a) = (sz : Int) := by unfold wrap64; omega
    have hF := fin sz n i (by omega) h0 hn hz
    by_cases hc : i < (s.size : Int)
    · have h6 : sz < 6 := by omega
      have hr := dg_rng (bt s i)
      have hcap2 := cap_succ sz
      have hJ := fun k => numF_eq k s a low n i (dg (bt s i)) sz hz h6 h0 hn hr (by omega) (by omega)
      have hft := ft_eq (show sz ≤ 6 by omega) i low h0 hn
      have hu : nm s low (f + 1) sz n i = if dg (bt s i) < 0 then (i, n, sz) else if hopeB (sz + 1) (16 * n + dg (bt s i)) low = true then nm s low f (sz + 1) (16 * n + dg (bt s i)) (i + 1) else (i, n, sz) := by
        rw [nm, if_pos hc]
      rw [hu]
      have go : ∀ r, Ev (fun k => numF k s a low n i (dg (bt s i))) r → Ev (fun k => posternref07_number.l0 k s a low n i) r := fun r h =>
        Ev.step (fun k => by rw [posternref07_number.l0, if_pos hc, hz, decide_eq_true (show (sz : Int) < 6 by omega)]) (Ev.step (fun k => by rw [posternref07_number.j1, if_pos rfl]) (digits_ev (by omega) hc h))
      by_cases hd : dg (bt s i) < 0
      · rw [if_pos hd]
        exact go _ (Ev.congr (fun k => by rw [hJ k, if_pos hd, hft]) (Ev.now _))
      · rw [if_neg hd]
        have hh := grows_ev (sz := sz + 1) (by omega) (by omega) (n := 16 * n + dg (bt s i)) low (by omega) (by omega)
        have hi2 := ih (sz + 1) (16 * n + dg (bt s i)) (i + 1) (by omega) (by omega) (by omega) (by omega) (by omega)
        have last : Ev (fun k => FT n i low (sz : Int)) (i, n, wholeB sz n low) := Ev.congr (fun k => by rw [hft]) (Ev.now _)
        cases e : hopeB (sz + 1) (16 * n + dg (bt s i)) low with
        | true =>
          rw [if_pos rfl]
          rw [e] at hh
          exact go _ (Ev.congr (fun k => by rw [hJ k, if_neg hd]) (Ev.bind hh (Ev.ite_t hi2)))
        | false =>
          rw [if_neg (by decide)]
          rw [e] at hh
          exact go _ (Ev.congr (fun k => by rw [hJ k, if_neg hd]) (Ev.bind hh (Ev.ite_f last)))
    · rw [nm, if_neg hc]
      exact Ev.step (fun k => by rw [posternref07_number.l0, if_neg hc]) hF

end Go.Proofs.Ytkpdccegamcppaa.PSpan

/-! ### XNmP: How far digits go on: where that ends. -/
namespace Go.Proofs.Ytkpdccegamcppaa.PSpan
open Go.RowKit Go.Proofs.YtkpdccegamcppaaW.PrintWords Go.Proofs.YtkpdccegamcppaaW.PrintLast Go.Proofs.YtkpdccegamcppaaW.PrintMore Go.Proofs.Ytkpdccegamcppaa.SpanP
set_option linter.unusedVariables false
set_option linter.unusedSimpArgs false

theorem nm_rng (s : ByteArray) (least : Int) : ∀ (f sz : Nat) (n i : Int), f + sz = 6 → 0 ≤ n → n < capN sz → i ≤ (s.size : Int) →
    i ≤ (nm s least f sz n i).1 ∧ (nm s least f sz n i).1 ≤ (s.size : Int) ∧ 0 ≤ (nm s least f sz n i).2.1 ∧ (nm s least f sz n i).2.1 < capN (nm s least f sz n i).2.2 ∧ (nm s least f sz n i).2.2 ≤ 6 := by
  intro f
  induction f with
  | zero =>
    intro sz n i hf h0 hn hi
    exact ⟨Int.le_refl _, hi, h0, hn, by show sz ≤ 6; omega⟩
  | succ f ih =>
    intro sz n i hf h0 hn hi
    have base : i ≤ (i, n, sz).1 ∧ (i, n, sz).1 ≤ (s.size : Int) ∧ 0 ≤ (i, n, sz).2.1 ∧ (i, n, sz).2.1 < capN (i, n, sz).2.2 ∧ (i, n, sz).2.2 ≤ 6 := ⟨Int.le_refl _, hi, h0, hn, by show sz ≤ 6; omega⟩
    have hr := dg_rng (bt s i)
    have hcap2 := cap_succ sz
    rw [nm]
    by_cases hc : i < (s.size : Int)
    · rw [if_pos hc]
      by_cases hd : dg (bt s i) < 0
      · rw [if_pos hd]; exact base
      · rw [if_neg hd]
        by_cases hh : hopeB (sz + 1) (16 * n + dg (bt s i)) least = true
        · rw [if_pos hh]
          have h := ih (sz + 1) (16 * n + dg (bt s i)) (i + 1) (by omega) (by omega) (by omega) (by omega)
          exact ⟨by omega, h.2⟩
        · rw [if_neg hh]; exact base
    · rw [if_neg hc]; exact base
theorem whole_rng {sz : Nat} {n least : Int} (h6 : sz ≤ 6) (h0 : 0 ≤ n) (hn : n < capN sz) (h : wholeB sz n least = true) : least ≤ n ∧ n ≤ 1114111 := by
  match sz, h6 with
  | 0, _ => cases h
  | 1, _ => cases h
  | 2, _ => cases h
  | 3, _ => cases h
  | 4, _ =>
    have h1 : n < 65536 := by simpa [capN] using hn
    have h2 : least ≤ n := of_decide_eq_true h
    exact ⟨h2, by omega⟩
  | 5, _ =>
    have h1 : n < 1048576 := by simpa [capN] using hn
    have h2 : 65536 ≤ n ∧ least ≤ n := of_decide_eq_true h
    exact ⟨h2.2, by omega⟩
  | 6, _ =>
    have h2 : 1048576 ≤ n ∧ least ≤ n ∧ n ≤ 1114111 := of_decide_eq_true h
    exact ⟨h2.2.1, h2.2.2⟩

end Go.Proofs.Ytkpdccegamcppaa.PSpan
