/- Whether digits so far may become a number: the package's hopes and the document's grows say the same; whole. The document's grows says what hopes says. -/
import Derived.Test.YtkpdccegamcppaaXEvI
import Derived.Test.YtkpdccegamcppaaPSpanx20
import Derived.Test.YtkpdccegamcppaaPSpanx21
import Derived.Laws.BitsLemmas
/-! ### XHopes: Whether digits so far may become a number: the package's hopes and the document's grows say the same; whole. -/
namespace Go.Proofs.Ytkpdccegamcppaa.PSpan
open Go.RowKit Go.Proofs.YtkpdccegamcppaaW.PrintWords Go.Proofs.YtkpdccegamcppaaW.PrintLast Go.Proofs.YtkpdccegamcppaaW.PrintMore Go.Proofs.Ytkpdccegamcppaa.SpanP
set_option linter.unusedVariables false
set_option linter.unusedSimpArgs false

theorem bounds4 : span_bounds.f 4 = some (0, 65535) := by decide +kernel
theorem bounds5 : span_bounds.f 5 = some (65536, 1048575) := by decide +kernel
theorem bounds6 : span_bounds.f 6 = some (1048576, 1114111) := by decide +kernel
/-- Digits that say n, w behind them, among the numbers from low to high, from least on. -/
def okN (n least w low high : Int) : Bool := decide (low ≤ n * w + (w - 1)) && decide (least ≤ n * w + (w - 1)) && (decide (n * w ≤ high) && decide (least ≤ high))
theorem sh0 {n : Int} (h0 : 0 ≤ n) (h1 : n * 1 < 2147483648) : shl .i32 n 0 = n * 1 := by
  unfold shl
  rw [show (2 : Int) ^ min (0 : Int).toNat IntKind.i32.bits = 1 from by decide +kernel, i32_w]
  unfold wrap32
  omega
theorem or0 {n : Int} (h0 : 0 ≤ n) (h1 : n * 1 < 2147483648) : Go.bits .or .i32 (n * 1) (wrap32 (shl .i32 1 0 - 1)) = n * 1 + 0 := by
  rw [show wrap32 (shl .i32 1 0 - 1) = 0 from by decide +kernel]
  exact bits_join .i32 31 (by decide) wraps_i32 0 (n * 1) 0 (by omega) (by omega) (by omega) (by decide) (by decide) (by omega)
theorem sh4 {n : Int} (h0 : 0 ≤ n) (h1 : n * 16 < 2147483648) : shl .i32 n 4 = n * 16 := by
  unfold shl
  rw [show (2 : Int) ^ min (4 : Int).toNat IntKind.i32.bits = 16 from by decide +kernel, i32_w]
  unfold wrap32
  omega
theorem or4 {n : Int} (h0 : 0 ≤ n) (h1 : n * 16 < 2147483648) : Go.bits .or .i32 (n * 16) (wrap32 (shl .i32 1 4 - 1)) = n * 16 + 15 := by
  rw [show wrap32 (shl .i32 1 4 - 1) = 15 from by decide +kernel]
  exact bits_join .i32 31 (by decide) wraps_i32 4 (n * 16) 15 (by omega) (by omega) (by omega) (by decide) (by decide) (by omega)
theorem sh8 {n : Int} (h0 : 0 ≤ n) (h1 : n * 256 < 2147483648) : shl .i32 n 8 = n * 256 := by
  unfold shl
  rw [show (2 : Int) ^ min (8 : Int).toNat IntKind.i32.bits = 256 from by decide +kernel, i32_w]
  unfold wrap32
  omega
theorem or8 {n : Int} (h0 : 0 ≤ n) (h1 : n * 256 < 2147483648) : Go.bits .or .i32 (n * 256) (wrap32 (shl .i32 1 8 - 1)) = n * 256 + 255 := by
  rw [show wrap32 (shl .i32 1 8 - 1) = 255 from by decide +kernel]
  exact bits_join .i32 31 (by decide) wraps_i32 8 (n * 256) 255 (by omega) (by omega) (by omega) (by decide) (by decide) (by omega)
theorem sh12 {n : Int} (h0 : 0 ≤ n) (h1 : n * 4096 < 2147483648) : shl .i32 n 12 = n * 4096 := by
  unfold shl
  rw [show (2 : Int) ^ min (12 : Int).toNat IntKind.i32.bits = 4096 from by decide +kernel, i32_w]
  unfold wrap32
  omega
theorem or12 {n : Int} (h0 : 0 ≤ n) (h1 : n * 4096 < 2147483648) : Go.bits .or .i32 (n * 4096) (wrap32 (shl .i32 1 12 - 1)) = n * 4096 + 4095 := by
  rw [show wrap32 (shl .i32 1 12 - 1) = 4095 from by decide +kernel]
  exact bits_join .i32 31 (by decide) wraps_i32 12 (n * 4096) 4095 (by omega) (by omega) (by omega) (by decide) (by decide) (by omega)
theorem sh16 {n : Int} (h0 : 0 ≤ n) (h1 : n * 65536 < 2147483648) : shl .i32 n 16 = n * 65536 := by
  unfold shl
  rw [show (2 : Int) ^ min (16 : Int).toNat IntKind.i32.bits = 65536 from by decide +kernel, i32_w]
  unfold wrap32
  omega
theorem or16 {n : Int} (h0 : 0 ≤ n) (h1 : n * 65536 < 2147483648) : Go.bits .or .i32 (n * 65536) (wrap32 (shl .i32 1 16 - 1)) = n * 65536 + 65535 := by
  rw [show wrap32 (shl .i32 1 16 - 1) = 65535 from by decide +kernel]
  exact bits_join .i32 31 (by decide) wraps_i32 16 (n * 65536) 65535 (by omega) (by omega) (by omega) (by decide) (by decide) (by omega)
theorem sh20 {n : Int} (h0 : 0 ≤ n) (h1 : n * 1048576 < 2147483648) : shl .i32 n 20 = n * 1048576 := by
  unfold shl
  rw [show (2 : Int) ^ min (20 : Int).toNat IntKind.i32.bits = 1048576 from by decide +kernel, i32_w]
  unfold wrap32
  omega
theorem or20 {n : Int} (h0 : 0 ≤ n) (h1 : n * 1048576 < 2147483648) : Go.bits .or .i32 (n * 1048576) (wrap32 (shl .i32 1 20 - 1)) = n * 1048576 + 1048575 := by
  rw [show wrap32 (shl .i32 1 20 - 1) = 1048575 from by decide +kernel]
  exact bits_join .i32 31 (by decide) wraps_i32 20 (n * 1048576) 1048575 (by omega) (by omega) (by omega) (by decide) (by decide) (by omega)
theorem okN_mx (n least w low high : Int) (b : Int) (hb : b = n * w + (w - 1)) (hw : 1 ≤ w) (hl : low ≤ high) : (mx (mx low least) (n * w) ≤ mn high b) ↔ okN n least w low high = true := by
  subst hb
  unfold okN mx mn
  simp only [Bool.and_eq_true, decide_eq_true_eq]
  repeat' split
  all_goals omega
def hopeB (s : Nat) (n least : Int) : Bool := match s with
  | 1 => okN n least 4096 0 65535 || okN n least 65536 65536 1048575 || okN n least 1048576 1048576 1114111
  | 2 => okN n least 256 0 65535 || okN n least 4096 65536 1048575 || okN n least 65536 1048576 1114111
  | 3 => okN n least 16 0 65535 || okN n least 256 65536 1048575 || okN n least 4096 1048576 1114111
  | 4 => okN n least 1 0 65535 || okN n least 16 65536 1048575 || okN n least 256 1048576 1114111
  | 5 => okN n least 1 65536 1048575 || okN n least 16 1048576 1114111
  | 6 => okN n least 1 1048576 1114111
  | _ => false
theorem hopes1 {n : Int} (least : Int) (h0 : 0 ≤ n) (h1 : n < 16) : Ev (fun k => span_hopes.f k n 1 least) (hopeB 1 n least) := by
  have last : Ev (fun k => span_hopes.l0 k n 1 least 7) false := Ev.step (f := fun _ => some _) (fun k => by simp only [span_hopes.l0]; rw [if_neg (by decide)]) (Ev.now _)
  have k6 : Ev (fun k => span_hopes.l0 k n 1 least 6) (okN n least 1048576 1048576 1114111 || false) := by
    have e := okN_mx n least 1048576 1048576 1114111 (n * 1048576 + 1048575) (by omega) (by decide) (by decide)
    cases c : okN n least 1048576 1048576 1114111 with
    | true =>
      refine Ev.step (f := fun _ => some _) (fun k => ?_) (Ev.now _)
      simp only [span_hopes.l0]
      rw [if_pos (by decide), bounds6, show (wrap64 (4 * wrap64 (6 - 1)) : Int) = 20 from by decide +kernel]
      simp only [Option.bind_some]
      rw [if_pos (by decide), sh20 h0 (by omega), or20 h0 (by omega), if_pos (e.2 c)]
      rfl
    | false =>
      refine Ev.step (fun k => ?_) (last)
      simp only [span_hopes.l0]
      rw [if_pos (by decide), bounds6, show (wrap64 (4 * wrap64 (6 - 1)) : Int) = 20 from by decide +kernel]
      simp only [Option.bind_some]
      rw [if_pos (by decide), sh20 h0 (by omega), or20 h0 (by omega), if_neg (fun h => by rw [e.1 h] at c; cases c), show (wrap64 (6 + 1) : Int) = 7 from by decide +kernel]
  have k5 : Ev (fun k => span_hopes.l0 k n 1 least 5) (okN n least 65536 65536 1048575 || (okN n least 1048576 1048576 1114111 || false)) := by
    have e := okN_mx n least 65536 65536 1048575 (n * 65536 + 65535) (by omega) (by decide) (by decide)
    cases c : okN n least 65536 65536 1048575 with
    | true =>
      refine Ev.step (f := fun _ => some _) (fun k => ?_) (Ev.now _)
      simp only [span_hopes.l0]
      rw [if_pos (by decide), bounds5, show (wrap64 (4 * wrap64 (5 - 1)) : Int) = 16 from by decide +kernel]
      simp only [Option.bind_some]
      rw [if_pos (by decide), sh16 h0 (by omega), or16 h0 (by omega), if_pos (e.2 c)]
      rfl
    | false =>
      refine Ev.step (fun k => ?_) (by rw [Bool.false_or]; exact k6)
      simp only [span_hopes.l0]
      rw [if_pos (by decide), bounds5, show (wrap64 (4 * wrap64 (5 - 1)) : Int) = 16 from by decide +kernel]
      simp only [Option.bind_some]
      rw [if_pos (by decide), sh16 h0 (by omega), or16 h0 (by omega), if_neg (fun h => by rw [e.1 h] at c; cases c), show (wrap64 (5 + 1) : Int) = 6 from by decide +kernel]
  have k4 : Ev (fun k => span_hopes.l0 k n 1 least 4) (okN n least 4096 0 65535 || (okN n least 65536 65536 1048575 || (okN n least 1048576 1048576 1114111 || false))) := by
    have e := okN_mx n least 4096 0 65535 (n * 4096 + 4095) (by omega) (by decide) (by decide)
    cases c : okN n least 4096 0 65535 with
    | true =>
      refine Ev.step (f := fun _ => some _) (fun k => ?_) (Ev.now _)
      simp only [span_hopes.l0]
      rw [if_pos (by decide), bounds4, show (wrap64 (4 * wrap64 (4 - 1)) : Int) = 12 from by decide +kernel]
      simp only [Option.bind_some]
      rw [if_pos (by decide), sh12 h0 (by omega), or12 h0 (by omega), if_pos (e.2 c)]
      rfl
    | false =>
      refine Ev.step (fun k => ?_) (by rw [Bool.false_or]; exact k5)
      simp only [span_hopes.l0]
      rw [if_pos (by decide), bounds4, show (wrap64 (4 * wrap64 (4 - 1)) : Int) = 12 from by decide +kernel]
      simp only [Option.bind_some]
      rw [if_pos (by decide), sh12 h0 (by omega), or12 h0 (by omega), if_neg (fun h => by rw [e.1 h] at c; cases c), show (wrap64 (4 + 1) : Int) = 5 from by decide +kernel]
  unfold span_hopes.f
  rw [show (mx 1 4 : Int) = 4 from by decide +kernel]
  have : hopeB 1 n least = (okN n least 4096 0 65535 || (okN n least 65536 65536 1048575 || (okN n least 1048576 1048576 1114111 || false))) := by unfold hopeB; simp [Bool.or_assoc]
  rw [this]
  exact k4
theorem hopes2 {n : Int} (least : Int) (h0 : 0 ≤ n) (h1 : n < 256) : Ev (fun k => span_hopes.f k n 2 least) (hopeB 2 n least) := by
  have last : Ev (fun k => span_hopes.l0 k n 2 least 7) false := Ev.step (f := fun _ => some _) (fun k => by simp only [span_hopes.l0]; rw [if_neg (by decide)]) (Ev.now _)
  have k6 : Ev (fun k => span_hopes.l0 k n 2 least 6) (okN n least 65536 1048576 1114111 || false) := by
    have e := okN_mx n least 65536 1048576 1114111 (n * 65536 + 65535) (by omega) (by decide) (by decide)
    cases c : okN n least 65536 1048576 1114111 with
    | true =>
      refine Ev.step (f := fun _ => some _) (fun k => ?_) (Ev.now _)
      simp only [span_hopes.l0]
      rw [if_pos (by decide), bounds6, show (wrap64 (4 * wrap64 (6 - 2)) : Int) = 16 from by decide +kernel]
      simp only [Option.bind_some]
      rw [if_pos (by decide), sh16 h0 (by omega), or16 h0 (by omega), if_pos (e.2 c)]
      rfl
    | false =>
      refine Ev.step (fun k => ?_) (last)
      simp only [span_hopes.l0]
      rw [if_pos (by decide), bounds6, show (wrap64 (4 * wrap64 (6 - 2)) : Int) = 16 from by decide +kernel]
      simp only [Option.bind_some]
      rw [if_pos (by decide), sh16 h0 (by omega), or16 h0 (by omega), if_neg (fun h => by rw [e.1 h] at c; cases c), show (wrap64 (6 + 1) : Int) = 7 from by decide +kernel]
  have k5 : Ev (fun k => span_hopes.l0 k n 2 least 5) (okN n least 4096 65536 1048575 || (okN n least 65536 1048576 1114111 || false)) := by
    have e := okN_mx n least 4096 65536 1048575 (n * 4096 + 4095) (by omega) (by decide) (by decide)
    cases c : okN n least 4096 65536 1048575 with
    | true =>
      refine Ev.step (f := fun _ => some _) (fun k => ?_) (Ev.now _)
      simp only [span_hopes.l0]
      rw [if_pos (by decide), bounds5, show (wrap64 (4 * wrap64 (5 - 2)) : Int) = 12 from by decide +kernel]
      simp only [Option.bind_some]
      rw [if_pos (by decide), sh12 h0 (by omega), or12 h0 (by omega), if_pos (e.2 c)]
      rfl
    | false =>
      refine Ev.step (fun k => ?_) (by rw [Bool.false_or]; exact k6)
      simp only [span_hopes.l0]
      rw [if_pos (by decide), bounds5, show (wrap64 (4 * wrap64 (5 - 2)) : Int) = 12 from by decide +kernel]
      simp only [Option.bind_some]
      rw [if_pos (by decide), sh12 h0 (by omega), or12 h0 (by omega), if_neg (fun h => by rw [e.1 h] at c; cases c), show (wrap64 (5 + 1) : Int) = 6 from by decide +kernel]
  have k4 : Ev (fun k => span_hopes.l0 k n 2 least 4) (okN n least 256 0 65535 || (okN n least 4096 65536 1048575 || (okN n least 65536 1048576 1114111 || false))) := by
    have e := okN_mx n least 256 0 65535 (n * 256 + 255) (by omega) (by decide) (by decide)
    cases c : okN n least 256 0 65535 with
    | true =>
      refine Ev.step (f := fun _ => some _) (fun k => ?_) (Ev.now _)
      simp only [span_hopes.l0]
      rw [if_pos (by decide), bounds4, show (wrap64 (4 * wrap64 (4 - 2)) : Int) = 8 from by decide +kernel]
      simp only [Option.bind_some]
      rw [if_pos (by decide), sh8 h0 (by omega), or8 h0 (by omega), if_pos (e.2 c)]
      rfl
    | false =>
      refine Ev.step (fun k => ?_) (by rw [Bool.false_or]; exact k5)
      simp only [span_hopes.l0]
      rw [if_pos (by decide), bounds4, show (wrap64 (4 * wrap64 (4 - 2)) : Int) = 8 from by decide +kernel]
      simp only [Option.bind_some]
      rw [if_pos (by decide), sh8 h0 (by omega), or8 h0 (by omega), if_neg (fun h => by rw [e.1 h] at c; cases c), show (wrap64 (4 + 1) : Int) = 5 from by decide +kernel]
  unfold span_hopes.f
  rw [show (mx 2 4 : Int) = 4 from by decide +kernel]
  have : hopeB 2 n least = (okN n least 256 0 65535 || (okN n least 4096 65536 1048575 || (okN n least 65536 1048576 1114111 || false))) := by unfold hopeB; simp [Bool.or_assoc]
  rw [this]
  exact k4
theorem hopes3 {n : Int} (least : Int) (h0 : 0 ≤ n) (h1 : n < 4096) : Ev (fun k => span_hopes.f k n 3 least) (hopeB 3 n least) := by
  have last : Ev (fun k => span_hopes.l0 k n 3 least 7) false := Ev.step (f := fun _ => some _) (fun k => by simp only [span_hopes.l0]; rw [if_neg (by decide)]) (Ev.now _)
  have k6 : Ev (fun k => span_hopes.l0 k n 3 least 6) (okN n least 4096 1048576 1114111 || false) := by
    have e := okN_mx n least 4096 1048576 1114111 (n * 4096 + 4095) (by omega) (by decide) (by decide)
    cases c : okN n least 4096 1048576 1114111 with
    | true =>
      refine Ev.step (f := fun _ => some _) (fun k => ?_) (Ev.now _)
      simp only [span_hopes.l0]
      rw [if_pos (by decide), bounds6, show (wrap64 (4 * wrap64 (6 - 3)) : Int) = 12 from by decide +kernel]
      simp only [Option.bind_some]
      rw [if_pos (by decide), sh12 h0 (by omega), or12 h0 (by omega), if_pos (e.2 c)]
      rfl
    | false =>
      refine Ev.step (fun k => ?_) (last)
      simp only [span_hopes.l0]
      rw [if_pos (by decide), bounds6, show (wrap64 (4 * wrap64 (6 - 3)) : Int) = 12 from by decide +kernel]
      simp only [Option.bind_some]
      rw [if_pos (by decide), sh12 h0 (by omega), or12 h0 (by omega), if_neg (fun h => by rw [e.1 h] at c; cases c), show (wrap64 (6 + 1) : Int) = 7 from by decide +kernel]
  have k5 : Ev (fun k => span_hopes.l0 k n 3 least 5) (okN n least 256 65536 1048575 || (okN n least 4096 1048576 1114111 || false)) := by
    have e := okN_mx n least 256 65536 1048575 (n * 256 + 255) (by omega) (by decide) (by decide)
    cases c : okN n least 256 65536 1048575 with
    | true =>
      refine Ev.step (f := fun _ => some _) (fun k => ?_) (Ev.now _)
      simp only [span_hopes.l0]
      rw [if_pos (by decide), bounds5, show (wrap64 (4 * wrap64 (5 - 3)) : Int) = 8 from by decide +kernel]
      simp only [Option.bind_some]
      rw [if_pos (by decide), sh8 h0 (by omega), or8 h0 (by omega), if_pos (e.2 c)]
      rfl
    | false =>
      refine Ev.step (fun k => ?_) (by rw [Bool.false_or]; exact k6)
      simp only [span_hopes.l0]
      rw [if_pos (by decide), bounds5, show (wrap64 (4 * wrap64 (5 - 3)) : Int) = 8 from by decide +kernel]
      simp only [Option.bind_some]
      rw [if_pos (by decide), sh8 h0 (by omega), or8 h0 (by omega), if_neg (fun h => by rw [e.1 h] at c; cases c), show (wrap64 (5 + 1) : Int) = 6 from by decide +kernel]
  have k4 : Ev (fun k => span_hopes.l0 k n 3 least 4) (okN n least 16 0 65535 || (okN n least 256 65536 1048575 || (okN n least 4096 1048576 1114111 || false))) := by
    have e := okN_mx n least 16 0 65535 (n * 16 + 15) (by omega) (by decide) (by decide)
    cases c : okN n least 16 0 65535 with
    | true =>
      refine Ev.step (f := fun _ => some _) (fun k => ?_) (Ev.now _)
      simp only [span_hopes.l0]
      rw [if_pos (by decide), bounds4, show (wrap64 (4 * wrap64 (4 - 3)) : Int) = 4 from by decide +kernel]
      simp only [Option.bind_some]
      rw [if_pos (by decide), sh4 h0 (by omega), or4 h0 (by omega), if_pos (e.2 c)]
      rfl
    | false =>
      refine Ev.step (fun k => ?_) (by rw [Bool.false_or]; exact k5)
      simp only [span_hopes.l0]
      rw [if_pos (by decide), bounds4, show (wrap64 (4 * wrap64 (4 - 3)) : Int) = 4 from by decide +kernel]
      simp only [Option.bind_some]
      rw [if_pos (by decide), sh4 h0 (by omega), or4 h0 (by omega), if_neg (fun h => by rw [e.1 h] at c; cases c), show (wrap64 (4 + 1) : Int) = 5 from by decide +kernel]
  unfold span_hopes.f
  rw [show (mx 3 4 : Int) = 4 from by decide +kernel]
  have : hopeB 3 n least = (okN n least 16 0 65535 || (okN n least 256 65536 1048575 || (okN n least 4096 1048576 1114111 || false))) := by unfold hopeB; simp [Bool.or_assoc]
  rw [this]
  exact k4
theorem hopes4 {n : Int} (least : Int) (h0 : 0 ≤ n) (h1 : n < 65536) : Ev (fun k => span_hopes.f k n 4 least) (hopeB 4 n least) := by
  have last : Ev (fun k => span_hopes.l0 k n 4 least 7) false := Ev.step (f := fun _ => some _) (fun k => by simp only [span_hopes.l0]; rw [if_neg (by decide)]) (Ev.now _)
  have k6 : Ev (fun k => span_hopes.l0 k n 4 least 6) (okN n least 256 1048576 1114111 || false) := by
    have e := okN_mx n least 256 1048576 1114111 (n * 256 + 255) (by omega) (by decide) (by decide)
    cases c : okN n least 256 1048576 1114111 with
    | true =>
      refine Ev.step (f := fun _ => some _) (fun k => ?_) (Ev.now _)
      simp only [span_hopes.l0]
      rw [if_pos (by decide), bounds6, show (wrap64 (4 * wrap64 (6 - 4)) : Int) = 8 from by decide +kernel]
      simp only [Option.bind_some]
      rw [if_pos (by decide), sh8 h0 (by omega), or8 h0 (by omega), if_pos (e.2 c)]
      rfl
    | false =>
      refine Ev.step (fun k => ?_) (last)
      simp only [span_hopes.l0]
      rw [if_pos (by decide), bounds6, show (wrap64 (4 * wrap64 (6 - 4)) : Int) = 8 from by decide +kernel]
      simp only [Option.bind_some]
      rw [if_pos (by decide), sh8 h0 (by omega), or8 h0 (by omega), if_neg (fun h => by rw [e.1 h] at c; cases c), show (wrap64 (6 + 1) : Int) = 7 from by decide +kernel]
  have k5 : Ev (fun k => span_hopes.l0 k n 4 least 5) (okN n least 16 65536 1048575 || (okN n least 256 1048576 1114111 || false)) := by
    have e := okN_mx n least 16 65536 1048575 (n * 16 + 15) (by omega) (by decide) (by decide)
    cases c : okN n least 16 65536 1048575 with
    | true =>
      refine Ev.step (f := fun _ => some _) (fun k => ?_) (Ev.now _)
      simp only [span_hopes.l0]
      rw [if_pos (by decide), bounds5, show (wrap64 (4 * wrap64 (5 - 4)) : Int) = 4 from by decide +kernel]
      simp only [Option.bind_some]
      rw [if_pos (by decide), sh4 h0 (by omega), or4 h0 (by omega), if_pos (e.2 c)]
      rfl
    | false =>
      refine Ev.step (fun k => ?_) (by rw [Bool.false_or]; exact k6)
      simp only [span_hopes.l0]
      rw [if_pos (by decide), bounds5, show (wrap64 (4 * wrap64 (5 - 4)) : Int) = 4 from by decide +kernel]
      simp only [Option.bind_some]
      rw [if_pos (by decide), sh4 h0 (by omega), or4 h0 (by omega), if_neg (fun h => by rw [e.1 h] at c; cases c), show (wrap64 (5 + 1) : Int) = 6 from by decide +kernel]
  have k4 : Ev (fun k => span_hopes.l0 k n 4 least 4) (okN n least 1 0 65535 || (okN n least 16 65536 1048575 || (okN n least 256 1048576 1114111 || false))) := by
    have e := okN_mx n least 1 0 65535 (n * 1 + 0) (by omega) (by decide) (by decide)
    cases c : okN n least 1 0 65535 with
    | true =>
      refine Ev.step (f := fun _ => some _) (fun k => ?_) (Ev.now _)
      simp only [span_hopes.l0]
      rw [if_pos (by decide), bounds4, show (wrap64 (4 * wrap64 (4 - 4)) : Int) = 0 from by decide +kernel]
      simp only [Option.bind_some]
      rw [if_pos (by decide), sh0 h0 (by omega), or0 h0 (by omega), if_pos (e.2 c)]
      rfl
    | false =>
      refine Ev.step (fun k => ?_) (by rw [Bool.false_or]; exact k5)
      simp only [span_hopes.l0]
      rw [if_pos (by decide), bounds4, show (wrap64 (4 * wrap64 (4 - 4)) : Int) = 0 from by decide +kernel]
      simp only [Option.bind_some]
      rw [if_pos (by decide), sh0 h0 (by omega), or0 h0 (by omega), if_neg (fun h => by rw [e.1 h] at c; cases c), show (wrap64 (4 + 1) : Int) = 5 from by decide +kernel]
  unfold span_hopes.f
  rw [show (mx 4 4 : Int) = 4 from by decide +kernel]
  have : hopeB 4 n least = (okN n least 1 0 65535 || (okN n least 16 65536 1048575 || (okN n least 256 1048576 1114111 || false))) := by unfold hopeB; simp [Bool.or_assoc]
  rw [this]
  exact k4
theorem hopes5 {n : Int} (least : Int) (h0 : 0 ≤ n) (h1 : n < 1048576) : Ev (fun k => span_hopes.f k n 5 least) (hopeB 5 n least) := by
  have last : Ev (fun k => span_hopes.l0 k n 5 least 7) false := Ev.step (f := fun _ => some _) (fun k => by simp only [span_hopes.l0]; rw [if_neg (by decide)]) (Ev.now _)
  have k6 : Ev (fun k => span_hopes.l0 k n 5 least 6) (okN n least 16 1048576 1114111 || false) := by
    have e := okN_mx n least 16 1048576 1114111 (n * 16 + 15) (by omega) (by decide) (by decide)
    cases c : okN n least 16 1048576 1114111 with
    | true =>
      refine Ev.step (f := fun _ => some _) (fun k => ?_) (Ev.now _)
      simp only [span_hopes.l0]
      rw [if_pos (by decide), bounds6, show (wrap64 (4 * wrap64 (6 - 5)) : Int) = 4 from by decide +kernel]
      simp only [Option.bind_some]
      rw [if_pos (by decide), sh4 h0 (by omega), or4 h0 (by omega), if_pos (e.2 c)]
      rfl
    | false =>
      refine Ev.step (fun k => ?_) (last)
      simp only [span_hopes.l0]
      rw [if_pos (by decide), bounds6, show (wrap64 (4 * wrap64 (6 - 5)) : Int) = 4 from by decide +kernel]
      simp only [Option.bind_some]
      rw [if_pos (by decide), sh4 h0 (by omega), or4 h0 (by omega), if_neg (fun h => by rw [e.1 h] at c; cases c), show (wrap64 (6 + 1) : Int) = 7 from by decide +kernel]
  have k5 : Ev (fun k => span_hopes.l0 k n 5 least 5) (okN n least 1 65536 1048575 || (okN n least 16 1048576 1114111 || false)) := by
    have e := okN_mx n least 1 65536 1048575 (n * 1 + 0) (by omega) (by decide) (by decide)
    cases c : okN n least 1 65536 1048575 with
    | true =>
      refine Ev.step (f := fun _ => some _) (fun k => ?_) (Ev.now _)
      simp only [span_hopes.l0]
      rw [if_pos (by decide), bounds5, show (wrap64 (4 * wrap64 (5 - 5)) : Int) = 0 from by decide +kernel]
      simp only [Option.bind_some]
      rw [if_pos (by decide), sh0 h0 (by omega), or0 h0 (by omega), if_pos (e.2 c)]
      rfl
    | false =>
      refine Ev.step (fun k => ?_) (by rw [Bool.false_or]; exact k6)
      simp only [span_hopes.l0]
      rw [if_pos (by decide), bounds5, show (wrap64 (4 * wrap64 (5 - 5)) : Int) = 0 from by decide +kernel]
      simp only [Option.bind_some]
      rw [if_pos (by decide), sh0 h0 (by omega), or0 h0 (by omega), if_neg (fun h => by rw [e.1 h] at c; cases c), show (wrap64 (5 + 1) : Int) = 6 from by decide +kernel]
  unfold span_hopes.f
  rw [show (mx 5 4 : Int) = 5 from by decide +kernel]
  have : hopeB 5 n least = (okN n least 1 65536 1048575 || (okN n least 16 1048576 1114111 || false)) := by unfold hopeB; simp [Bool.or_assoc]
  rw [this]
  exact k5
theorem hopes6 {n : Int} (least : Int) (h0 : 0 ≤ n) (h1 : n < 16777216) : Ev (fun k => span_hopes.f k n 6 least) (hopeB 6 n least) := by
  have last : Ev (fun k => span_hopes.l0 k n 6 least 7) false := Ev.step (f := fun _ => some _) (fun k => by simp only [span_hopes.l0]; rw [if_neg (by decide)]) (Ev.now _)
  have k6 : Ev (fun k => span_hopes.l0 k n 6 least 6) (okN n least 1 1048576 1114111 || false) := by
    have e := okN_mx n least 1 1048576 1114111 (n * 1 + 0) (by omega) (by decide) (by decide)
    cases c : okN n least 1 1048576 1114111 with
    | true =>
      refine Ev.step (f := fun _ => some _) (fun k => ?_) (Ev.now _)
      simp only [span_hopes.l0]
      rw [if_pos (by decide), bounds6, show (wrap64 (4 * wrap64 (6 - 6)) : Int) = 0 from by decide +kernel]
      simp only [Option.bind_some]
      rw [if_pos (by decide), sh0 h0 (by omega), or0 h0 (by omega), if_pos (e.2 c)]
      rfl
    | false =>
      refine Ev.step (fun k => ?_) (last)
      simp only [span_hopes.l0]
      rw [if_pos (by decide), bounds6, show (wrap64 (4 * wrap64 (6 - 6)) : Int) = 0 from by decide +kernel]
      simp only [Option.bind_some]
      rw [if_pos (by decide), sh0 h0 (by omega), or0 h0 (by omega), if_neg (fun h => by rw [e.1 h] at c; cases c), show (wrap64 (6 + 1) : Int) = 7 from by decide +kernel]
  unfold span_hopes.f
  rw [show (mx 6 4 : Int) = 6 from by decide +kernel]
  have : hopeB 6 n least = (okN n least 1 1048576 1114111 || false) := by unfold hopeB; simp [Bool.or_assoc]
  rw [this]
  exact k6

end Go.Proofs.Ytkpdccegamcppaa.PSpan

/-! ### XGrows: The document's grows says what hopes says. -/
namespace Go.Proofs.Ytkpdccegamcppaa.PSpan
open Go.RowKit Go.Proofs.YtkpdccegamcppaaW.PrintWords Go.Proofs.YtkpdccegamcppaaW.PrintLast Go.Proofs.YtkpdccegamcppaaW.PrintMore Go.Proofs.Ytkpdccegamcppaa.SpanP
set_option linter.unusedVariables false
set_option linter.unusedSimpArgs false

abbrev QQ (a s : Int) : Int := IntKind.u64.wrap (wrap64 (4 * wrap64 (a - s)))
theorem grows_j3 {n s least a x8 x9 : Int} {rest : Bool} (hr : Ev (fun k => posternref07_grows.l0 k n s least (wrap64 (a + 1))) rest) :
    Ev (fun k => posternref07_grows.j3 k n s least a x8 x9) ((decide (least ≤ mn x9 1114111) && decide (x8 ≤ mn x9 1114111)) || rest) := by
  unfold mn
  by_cases h1 : x9 > 1114111
  · rw [if_pos h1]
    by_cases h2 : least ≤ 1114111
    · by_cases h3 : x8 ≤ 1114111
      · rw [decide_eq_true h2, decide_eq_true h3]
        exact Ev.step (f := fun _ => some _) (fun k => by simp only [posternref07_grows.j3]; rw [if_pos h1, if_pos h2, if_pos h3]; rfl) (Ev.now _)
      · rw [decide_eq_true h2, decide_eq_false h3, Bool.and_false, Bool.false_or]
        exact Ev.step (fun k => by simp only [posternref07_grows.j3]; rw [if_pos h1, if_pos h2, if_neg h3]) hr
    · rw [decide_eq_false h2, Bool.false_and, Bool.false_or]
      exact Ev.step (fun k => by simp only [posternref07_grows.j3]; rw [if_pos h1, if_neg h2]) hr
  · rw [if_neg h1]
    by_cases h2 : least ≤ x9
    · by_cases h3 : x8 ≤ x9
      · rw [decide_eq_true h2, decide_eq_true h3]
        exact Ev.step (f := fun _ => some _) (fun k => by simp only [posternref07_grows.j3]; rw [if_neg h1, if_pos h2, if_pos h3]; rfl) (Ev.now _)
      · rw [decide_eq_true h2, decide_eq_false h3, Bool.and_false, Bool.false_or]
        exact Ev.step (fun k => by simp only [posternref07_grows.j3]; rw [if_neg h1, if_pos h2, if_neg h3]) hr
    · rw [decide_eq_false h2, Bool.false_and, Bool.false_or]
      exact Ev.step (fun k => by simp only [posternref07_grows.j3]; rw [if_neg h1, if_neg h2]) hr
/-- Four digits in all. -/
theorem grows_four {n s least w : Int} {rest : Bool} (has : ¬ 4 < s) (q0 : 0 ≤ QQ 4 s) (e1 : shl .i32 n (QQ 4 s) = n * w) (e2 : shl .i32 1 (QQ 4 s) = w) (e3 : wrap32 (wrap32 (n * w + w) - 1) = n * w + (w - 1))
    (hr : Ev (fun k => posternref07_grows.l0 k n s least 5) rest) : Ev (fun k => posternref07_grows.l0 k n s least 4) ((decide (least ≤ mn (n * w + (w - 1)) 1114111) && decide (n * w ≤ mn (n * w + (w - 1)) 1114111)) || rest) := by
  have k3 := grows_j3 (n := n) (s := s) (least := least) (a := 4) (x8 := n * w) (x9 := n * w + (w - 1)) (rest := rest) (by rw [show wrap64 (4 + 1) = 5 from by decide +kernel]; exact hr)
  have k2 : Ev (fun k => posternref07_grows.j2 k n s least 4 (n * w) (n * w + (w - 1)) false) _ := Ev.step (fun k => by simp only [posternref07_grows.j2]; rw [if_neg (by decide)]) k3
  have k1 : Ev (fun k => posternref07_grows.j1 k n s least 4 (n * w) (n * w + (w - 1)) false) _ := Ev.step (fun k => by simp only [posternref07_grows.j1]; rw [if_neg (by decide), if_neg (by decide)]) k2
  exact Ev.step (fun k => by simp only [posternref07_grows.l0]; rw [if_pos (by decide), if_neg has, if_pos q0, if_neg (by decide), e1, e2, e3]) k1
/-- Five or six. -/
theorem grows_more {n s least a w low : Int} {rest : Bool} (h4 : a > 4) (h6 : a ≤ 6) (has : ¬ a < s) (q0 : 0 ≤ QQ a s) (e1 : shl .i32 n (QQ a s) = n * w) (e2 : shl .i32 1 (QQ a s) = w) (e3 : wrap32 (wrap32 (n * w + w) - 1) = n * w + (w - 1))
    (q1 : 0 ≤ QQ a 1) (e4 : shl .i32 1 (QQ a 1) = low) (hr : Ev (fun k => posternref07_grows.l0 k n s least (wrap64 (a + 1))) rest) :
    Ev (fun k => posternref07_grows.l0 k n s least a) ((decide (low ≤ n * w + (w - 1)) && (decide (least ≤ mn (n * w + (w - 1)) 1114111) && decide ((if n * w < low then low else n * w) ≤ mn (n * w + (w - 1)) 1114111))) || rest) := by
  have k3 := grows_j3 (n := n) (s := s) (least := least) (a := a) (x8 := if n * w < low then low else n * w) (x9 := n * w + (w - 1)) (rest := rest) hr
  have k2 : Ev (fun k => posternref07_grows.j2 k n s least a (n * w) (n * w + (w - 1)) (decide (n * w < low))) ((decide (least ≤ mn (n * w + (w - 1)) 1114111) && decide ((if n * w < low then low else n * w) ≤ mn (n * w + (w - 1)) 1114111)) || rest) := by
    by_cases h : n * w < low
    · rw [if_pos h] at k3 ⊢
      rw [decide_eq_true h]
      exact Ev.step (fun k => by simp only [posternref07_grows.j2]; rw [if_pos trivial, if_pos q1, e4]) k3
    · rw [if_neg h] at k3 ⊢
      rw [decide_eq_false h]
      exact Ev.step (fun k => by simp only [posternref07_grows.j2]; rw [if_neg (by decide)]) k3
  have k1 : Ev (fun k => posternref07_grows.j1 k n s least a (n * w) (n * w + (w - 1)) (decide (n * w + (w - 1) < low))) ((decide (low ≤ n * w + (w - 1)) && (decide (least ≤ mn (n * w + (w - 1)) 1114111) && decide ((if n * w < low then low else n * w) ≤ mn (n * w + (w - 1)) 1114111))) || rest) := by
    by_cases h : n * w + (w - 1) < low
    · rw [decide_eq_true h, decide_eq_false (show ¬ low ≤ n * w + (w - 1) by omega), Bool.false_and, Bool.false_or]
      exact Ev.step (fun k => by simp only [posternref07_grows.j1]; rw [if_pos trivial]) hr
    · rw [decide_eq_false h, decide_eq_true (show low ≤ n * w + (w - 1) by omega), Bool.true_and]
      exact Ev.step (fun k => by simp only [posternref07_grows.j1]; rw [if_neg (by decide), if_pos h4, if_pos q1, e4]) k2
  exact Ev.step (fun k => by simp only [posternref07_grows.l0]; rw [if_pos h6, if_neg has, if_pos q0, if_pos h4, if_pos q1, e1, e2, e3, e4]) k1
theorem grows1 {n : Int} (least : Int) (h0 : 0 ≤ n) (h1 : n < 16) : Ev (fun k => posternref07_grows.f k n 1 least) (hopeB 1 n least) := by
  have last : Ev (fun k => posternref07_grows.l0 k n 1 least 7) false := Ev.step (f := fun _ => some _) (fun k => by simp only [posternref07_grows.l0]; rw [if_neg (by decide)]) (Ev.now _)
  have k6 := grows_more (n := n) (s := 1) (least := least) (a := 6) (w := 1048576) (low := 1048576) (by decide) (by decide) (by decide) (by decide +kernel) (by rw [show QQ 6 1 = 20 from by decide +kernel]; exact sh20 h0 (by omega)) (by decide +kernel) (by unfold wrap32; omega) (by decide +kernel) (by decide +kernel) (by rw [show wrap64 (6 + 1) = 7 from by decide +kernel]; exact last)
  have e6 : (decide (1048576 ≤ n * 1048576 + (1048576 - 1)) && (decide (least ≤ mn (n * 1048576 + (1048576 - 1)) 1114111) && decide ((if n * 1048576 < 1048576 then 1048576 else n * 1048576) ≤ mn (n * 1048576 + (1048576 - 1)) 1114111))) = okN n least 1048576 1048576 1114111 := by
    rw [Bool.eq_iff_iff]
    unfold okN mn
    simp only [Bool.and_eq_true, decide_eq_true_eq]
    repeat' split
    all_goals omega
  rw [e6] at k6
  have k5 := grows_more (n := n) (s := 1) (least := least) (a := 5) (w := 65536) (low := 65536) (by decide) (by decide) (by decide) (by decide +kernel) (by rw [show QQ 5 1 = 16 from by decide +kernel]; exact sh16 h0 (by omega)) (by decide +kernel) (by unfold wrap32; omega) (by decide +kernel) (by decide +kernel) (by rw [show wrap64 (5 + 1) = 6 from by decide +kernel]; exact k6)
  have e5 : (decide (65536 ≤ n * 65536 + (65536 - 1)) && (decide (least ≤ mn (n * 65536 + (65536 - 1)) 1114111) && decide ((if n * 65536 < 65536 then 65536 else n * 65536) ≤ mn (n * 65536 + (65536 - 1)) 1114111))) = okN n least 65536 65536 1048575 := by
    rw [Bool.eq_iff_iff]
    unfold okN mn
    simp only [Bool.and_eq_true, decide_eq_true_eq]
    repeat' split
    all_goals omega
  rw [e5] at k5
  have k4 := grows_four (n := n) (s := 1) (least := least) (w := 4096) (by decide) (by decide +kernel) (by rw [show QQ 4 1 = 12 from by decide +kernel]; exact sh12 h0 (by omega)) (by decide +kernel) (by unfold wrap32; omega) k5
  have e4 : (decide (least ≤ mn (n * 4096 + (4096 - 1)) 1114111) && decide (n * 4096 ≤ mn (n * 4096 + (4096 - 1)) 1114111)) = okN n least 4096 0 65535 := by
    rw [Bool.eq_iff_iff]
    unfold okN mn
    simp only [Bool.and_eq_true, decide_eq_true_eq]
    repeat' split
    all_goals omega
  rw [e4] at k4
  have e : hopeB 1 n least = (okN n least 4096 0 65535 || (okN n least 65536 65536 1048575 || (okN n least 1048576 1048576 1114111 || false))) := by unfold hopeB; simp [Bool.or_assoc]
  rw [e]
  exact k4
theorem grows2 {n : Int} (least : Int) (h0 : 0 ≤ n) (h1 : n < 256) : Ev (fun k => posternref07_grows.f k n 2 least) (hopeB 2 n least) := by
  have last : Ev (fun k => posternref07_grows.l0 k n 2 least 7) false := Ev.step (f := fun _ => some _) (fun k => by simp only [posternref07_grows.l0]; rw [if_neg (by decide)]) (Ev.now _)
  have k6 := grows_more (n := n) (s := 2) (least := least) (a := 6) (w := 65536) (low := 1048576) (by decide) (by decide) (by decide) (by decide +kernel) (by rw [show QQ 6 2 = 16 from by decide +kernel]; exact sh16 h0 (by omega)) (by decide +kernel) (by unfold wrap32; omega) (by decide +kernel) (by decide +kernel) (by rw [show wrap64 (6 + 1) = 7 from by decide +kernel]; exact last)
  have e6 : (decide (1048576 ≤ n * 65536 + (65536 - 1)) && (decide (least ≤ mn (n * 65536 + (65536 - 1)) 1114111) && decide ((if n * 65536 < 1048576 then 1048576 else n * 65536) ≤ mn (n * 65536 + (65536 - 1)) 1114111))) = okN n least 65536 1048576 1114111 := by
    rw [Bool.eq_iff_iff]
    unfold okN mn
    simp only [Bool.and_eq_true, decide_eq_true_eq]
    repeat' split
    all_goals omega
  rw [e6] at k6
  have k5 := grows_more (n := n) (s := 2) (least := least) (a := 5) (w := 4096) (low := 65536) (by decide) (by decide) (by decide) (by decide +kernel) (by rw [show QQ 5 2 = 12 from by decide +kernel]; exact sh12 h0 (by omega)) (by decide +kernel) (by unfold wrap32; omega) (by decide +kernel) (by decide +kernel) (by rw [show wrap64 (5 + 1) = 6 from by decide +kernel]; exact k6)
  have e5 : (decide (65536 ≤ n * 4096 + (4096 - 1)) && (decide (least ≤ mn (n * 4096 + (4096 - 1)) 1114111) && decide ((if n * 4096 < 65536 then 65536 else n * 4096) ≤ mn (n * 4096 + (4096 - 1)) 1114111))) = okN n least 4096 65536 1048575 := by
    rw [Bool.eq_iff_iff]
    unfold okN mn
    simp only [Bool.and_eq_true, decide_eq_true_eq]
    repeat' split
    all_goals omega
  rw [e5] at k5
  have k4 := grows_four (n := n) (s := 2) (least := least) (w := 256) (by decide) (by decide +kernel) (by rw [show QQ 4 2 = 8 from by decide +kernel]; exact sh8 h0 (by omega)) (by decide +kernel) (by unfold wrap32; omega) k5
  have e4 : (decide (least ≤ mn (n * 256 + (256 - 1)) 1114111) && decide (n * 256 ≤ mn (n * 256 + (256 - 1)) 1114111)) = okN n least 256 0 65535 := by
    rw [Bool.eq_iff_iff]
    unfold okN mn
    simp only [Bool.and_eq_true, decide_eq_true_eq]
    repeat' split
    all_goals omega
  rw [e4] at k4
  have e : hopeB 2 n least = (okN n least 256 0 65535 || (okN n least 4096 65536 1048575 || (okN n least 65536 1048576 1114111 || false))) := by unfold hopeB; simp [Bool.or_assoc]
  rw [e]
  exact k4
theorem grows3 {n : Int} (least : Int) (h0 : 0 ≤ n) (h1 : n < 4096) : Ev (fun k => posternref07_grows.f k n 3 least) (hopeB 3 n least) := by
  have last : Ev (fun k => posternref07_grows.l0 k n 3 least 7) false := Ev.step (f := fun _ => some _) (fun k => by simp only [posternref07_grows.l0]; rw [if_neg (by decide)]) (Ev.now _)
  have k6 := grows_more (n := n) (s := 3) (least := least) (a := 6) (w := 4096) (low := 1048576) (by decide) (by decide) (by decide) (by decide +kernel) (by rw [show QQ 6 3 = 12 from by decide +kernel]; exact sh12 h0 (by omega)) (by decide +kernel) (by unfold wrap32; omega) (by decide +kernel) (by decide +kernel) (by rw [show wrap64 (6 + 1) = 7 from by decide +kernel]; exact last)
  have e6 : (decide (1048576 ≤ n * 4096 + (4096 - 1)) && (decide (least ≤ mn (n * 4096 + (4096 - 1)) 1114111) && decide ((if n * 4096 < 1048576 then 1048576 else n * 4096) ≤ mn (n * 4096 + (4096 - 1)) 1114111))) = okN n least 4096 1048576 1114111 := by
    rw [Bool.eq_iff_iff]
    unfold okN mn
    simp only [Bool.and_eq_true, decide_eq_true_eq]
    repeat' split
    all_goals omega
  rw [e6] at k6
  have k5 := grows_more (n := n) (s := 3) (least := least) (a := 5) (w := 256) (low := 65536) (by decide) (by decide) (by decide) (by decide +kernel) (by rw [show QQ 5 3 = 8 from by decide +kernel]; exact sh8 h0 (by omega)) (by decide +kernel) (by unfold wrap32; omega) (by decide +kernel) (by decide +kernel) (by rw [show wrap64 (5 + 1) = 6 from by decide +kernel]; exact k6)
  have e5 : (decide (65536 ≤ n * 256 + (256 - 1)) && (decide (least ≤ mn (n * 256 + (256 - 1)) 1114111) && decide ((if n * 256 < 65536 then 65536 else n * 256) ≤ mn (n * 256 + (256 - 1)) 1114111))) = okN n least 256 65536 1048575 := by
    rw [Bool.eq_iff_iff]
    unfold okN mn
    simp only [Bool.and_eq_true, decide_eq_true_eq]
    repeat' split
    all_goals omega
  rw [e5] at k5
  have k4 := grows_four (n := n) (s := 3) (least := least) (w := 16) (by decide) (by decide +kernel) (by rw [show QQ 4 3 = 4 from by decide +kernel]; exact sh4 h0 (by omega)) (by decide +kernel) (by unfold wrap32; omega) k5
  have e4 : (decide (least ≤ mn (n * 16 + (16 - 1)) 1114111) && decide (n * 16 ≤ mn (n * 16 + (16 - 1)) 1114111)) = okN n least 16 0 65535 := by
    rw [Bool.eq_iff_iff]
    unfold okN mn
    simp only [Bool.and_eq_true, decide_eq_true_eq]
    repeat' split
    all_goals omega
  rw [e4] at k4
  have e : hopeB 3 n least = (okN n least 16 0 65535 || (okN n least 256 65536 1048575 || (okN n least 4096 1048576 1114111 || false))) := by unfold hopeB; simp [Bool.or_assoc]
  rw [e]
  exact k4
theorem grows4 {n : Int} (least : Int) (h0 : 0 ≤ n) (h1 : n < 65536) : Ev (fun k => posternref07_grows.f k n 4 least) (hopeB 4 n least) := by
  have last : Ev (fun k => posternref07_grows.l0 k n 4 least 7) false := Ev.step (f := fun _ => some _) (fun k => by simp only [posternref07_grows.l0]; rw [if_neg (by decide)]) (Ev.now _)
  have k6 := grows_more (n := n) (s := 4) (least := least) (a := 6) (w := 256) (low := 1048576) (by decide) (by decide) (by decide) (by decide +kernel) (by rw [show QQ 6 4 = 8 from by decide +kernel]; exact sh8 h0 (by omega)) (by decide +kernel) (by unfold wrap32; omega) (by decide +kernel) (by decide +kernel) (by rw [show wrap64 (6 + 1) = 7 from by decide +kernel]; exact last)
  have e6 : (decide (1048576 ≤ n * 256 + (256 - 1)) && (decide (least ≤ mn (n * 256 + (256 - 1)) 1114111) && decide ((if n * 256 < 1048576 then 1048576 else n * 256) ≤ mn (n * 256 + (256 - 1)) 1114111))) = okN n least 256 1048576 1114111 := by
    rw [Bool.eq_iff_iff]
    unfold okN mn
    simp only [Bool.and_eq_true, decide_eq_true_eq]
    repeat' split
    all_goals omega
  rw [e6] at k6
  have k5 := grows_more (n := n) (s := 4) (least := least) (a := 5) (w := 16) (low := 65536) (by decide) (by decide) (by decide) (by decide +kernel) (by rw [show QQ 5 4 = 4 from by decide +kernel]; exact sh4 h0 (by omega)) (by decide +kernel) (by unfold wrap32; omega) (by decide +kernel) (by decide +kernel) (by rw [show wrap64 (5 + 1) = 6 from by decide +kernel]; exact k6)
  have e5 : (decide (65536 ≤ n * 16 + (16 - 1)) && (decide (least ≤ mn (n * 16 + (16 - 1)) 1114111) && decide ((if n * 16 < 65536 then 65536 else n * 16) ≤ mn (n * 16 + (16 - 1)) 1114111))) = okN n least 16 65536 1048575 := by
    rw [Bool.eq_iff_iff]
    unfold okN mn
    simp only [Bool.and_eq_true, decide_eq_true_eq]
    repeat' split
    all_goals omega
  rw [e5] at k5
  have k4 := grows_four (n := n) (s := 4) (least := least) (w := 1) (by decide) (by decide +kernel) (by rw [show QQ 4 4 = 0 from by decide +kernel]; exact sh0 h0 (by omega)) (by decide +kernel) (by unfold wrap32; omega) k5
  have e4 : (decide (least ≤ mn (n * 1 + (1 - 1)) 1114111) && decide (n * 1 ≤ mn (n * 1 + (1 - 1)) 1114111)) = okN n least 1 0 65535 := by
    rw [Bool.eq_iff_iff]
    unfold okN mn
    simp only [Bool.and_eq_true, decide_eq_true_eq]
    repeat' split
    all_goals omega
  rw [e4] at k4
  have e : hopeB 4 n least = (okN n least 1 0 65535 || (okN n least 16 65536 1048575 || (okN n least 256 1048576 1114111 || false))) := by unfold hopeB; simp [Bool.or_assoc]
  rw [e]
  exact k4
theorem grows5 {n : Int} (least : Int) (h0 : 0 ≤ n) (h1 : n < 1048576) : Ev (fun k => posternref07_grows.f k n 5 least) (hopeB 5 n least) := by
  have last : Ev (fun k => posternref07_grows.l0 k n 5 least 7) false := Ev.step (f := fun _ => some _) (fun k => by simp only [posternref07_grows.l0]; rw [if_neg (by decide)]) (Ev.now _)
  have k6 := grows_more (n := n) (s := 5) (least := least) (a := 6) (w := 16) (low := 1048576) (by decide) (by decide) (by decide) (by decide +kernel) (by rw [show QQ 6 5 = 4 from by decide +kernel]; exact sh4 h0 (by omega)) (by decide +kernel) (by unfold wrap32; omega) (by decide +kernel) (by decide +kernel) (by rw [show wrap64 (6 + 1) = 7 from by decide +kernel]; exact last)
  have e6 : (decide (1048576 ≤ n * 16 + (16 - 1)) && (decide (least ≤ mn (n * 16 + (16 - 1)) 1114111) && decide ((if n * 16 < 1048576 then 1048576 else n * 16) ≤ mn (n * 16 + (16 - 1)) 1114111))) = okN n least 16 1048576 1114111 := by
    rw [Bool.eq_iff_iff]
    unfold okN mn
    simp only [Bool.and_eq_true, decide_eq_true_eq]
    repeat' split
    all_goals omega
  rw [e6] at k6
  have k5 := grows_more (n := n) (s := 5) (least := least) (a := 5) (w := 1) (low := 65536) (by decide) (by decide) (by decide) (by decide +kernel) (by rw [show QQ 5 5 = 0 from by decide +kernel]; exact sh0 h0 (by omega)) (by decide +kernel) (by unfold wrap32; omega) (by decide +kernel) (by decide +kernel) (by rw [show wrap64 (5 + 1) = 6 from by decide +kernel]; exact k6)
  have e5 : (decide (65536 ≤ n * 1 + (1 - 1)) && (decide (least ≤ mn (n * 1 + (1 - 1)) 1114111) && decide ((if n * 1 < 65536 then 65536 else n * 1) ≤ mn (n * 1 + (1 - 1)) 1114111))) = okN n least 1 65536 1048575 := by
    rw [Bool.eq_iff_iff]
    unfold okN mn
    simp only [Bool.and_eq_true, decide_eq_true_eq]
    repeat' split
    all_goals omega
  rw [e5] at k5
  have k4 : Ev (fun k => posternref07_grows.l0 k n 5 least 4) (okN n least 1 65536 1048575 || (okN n least 16 1048576 1114111 || false)) := Ev.step (fun k => by simp only [posternref07_grows.l0]; rw [if_pos (by decide), if_pos (by decide), show (wrap64 (4 + 1) : Int) = 5 from by decide +kernel]) k5
  have e : hopeB 5 n least = (okN n least 1 65536 1048575 || (okN n least 16 1048576 1114111 || false)) := by unfold hopeB; simp [Bool.or_assoc]
  rw [e]
  exact k4
theorem grows6 {n : Int} (least : Int) (h0 : 0 ≤ n) (h1 : n < 16777216) : Ev (fun k => posternref07_grows.f k n 6 least) (hopeB 6 n least) := by
  have last : Ev (fun k => posternref07_grows.l0 k n 6 least 7) false := Ev.step (f := fun _ => some _) (fun k => by simp only [posternref07_grows.l0]; rw [if_neg (by decide)]) (Ev.now _)
  have k6 := grows_more (n := n) (s := 6) (least := least) (a := 6) (w := 1) (low := 1048576) (by decide) (by decide) (by decide) (by decide +kernel) (by rw [show QQ 6 6 = 0 from by decide +kernel]; exact sh0 h0 (by omega)) (by decide +kernel) (by unfold wrap32; omega) (by decide +kernel) (by decide +kernel) (by rw [show wrap64 (6 + 1) = 7 from by decide +kernel]; exact last)
  have e6 : (decide (1048576 ≤ n * 1 + (1 - 1)) && (decide (least ≤ mn (n * 1 + (1 - 1)) 1114111) && decide ((if n * 1 < 1048576 then 1048576 else n * 1) ≤ mn (n * 1 + (1 - 1)) 1114111))) = okN n least 1 1048576 1114111 := by
    rw [Bool.eq_iff_iff]
    unfold okN mn
    simp only [Bool.and_eq_true, decide_eq_true_eq]
    repeat' split
    all_goals omega
  rw [e6] at k6
  have k5 : Ev (fun k => posternref07_grows.l0 k n 6 least 5) (okN n least 1 1048576 1114111 || false) := Ev.step (fun k => by simp only [posternref07_grows.l0]; rw [if_pos (by decide), if_pos (by decide), show (wrap64 (5 + 1) : Int) = 6 from by decide +kernel]) k6
  have k4 : Ev (fun k => posternref07_grows.l0 k n 6 least 4) (okN n least 1 1048576 1114111 || false) := Ev.step (fun k => by simp only [posternref07_grows.l0]; rw [if_pos (by decide), if_pos (by decide), show (wrap64 (4 + 1) : Int) = 5 from by decide +kernel]) k5
  have e : hopeB 6 n least = (okN n least 1 1048576 1114111 || false) := by unfold hopeB; simp [Bool.or_assoc]
  rw [e]
  exact k4

end Go.Proofs.Ytkpdccegamcppaa.PSpan
