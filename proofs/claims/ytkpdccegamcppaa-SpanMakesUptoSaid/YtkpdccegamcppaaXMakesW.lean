/- SpanMakes: the law's call. -/
import Derived.Test.YtkpdccegamcppaaXMakes
import Derived.Test.YtkpdccegamcppaaXRow
namespace Go.Proofs.Ytkpdccegamcppaa.PSpan
open Go.RowKit Go.Proofs.YtkpdccegamcppaaW.PrintWords Go.Proofs.YtkpdccegamcppaaW.PrintLast Go.Proofs.YtkpdccegamcppaaW.PrintMore

theorem spanMakes_calls (w : World) (A0 : Option Addr) (c0 : Nat) (l : List S50) (hC : Kd.C k50 w A0 l.length l) (hc0 : l.length ≤ c0) (_ : Fits l) (hl : l.length ≤ 1048576) :
    Calls Try.prog 3 #[.slice A0 l.length c0] w (Yes w) := by
  obtain ⟨k, h⟩ := (spanMakes_ev l (by omega)).rounds
  exact posternlaw07_SpanMakes.calls k A0 c0 l true w hC hc0 h

end Go.Proofs.Ytkpdccegamcppaa.PSpan
