/- What is asked of a set of spans, as contracts with their answers. -/
import Derived.Test.YtkpdccegamcppaaXAsks
namespace Go.Proofs.Ytkpdccegamcppaa.PSpan
open Go.RowKit Go.Proofs.YtkpdccegamcppaaW.PrintWords Go.Proofs.YtkpdccegamcppaaW.PrintLast Go.Proofs.YtkpdccegamcppaaW.PrintMore Go.Proofs.Ytkpdccegamcppaa.SpanP
set_option linter.unusedVariables false
set_option linter.unusedSimpArgs false

section
variable {W : World} {A0 A1 A2 : Option Addr} {c0 c1 c2 : Nat} {l0 l1 l2 : List Sn} {q0 q1 : List Q}
theorem c_has {r : Bool} (a : Int) (h0 : InP A0 c0 l0 W) (ev : Ev (fun k => span_Has.f k l0 a) r) : Calls Try.prog 28 #[.slice A0 l0.length c0, .int .i32 a] W (PB W r) := by
  obtain ⟨k, hk⟩ := ev.rounds
  exact (span_Has.calls k A0 c0 l0 a r W h0.1 h0.2 hk).mono fun e w' ⟨he, hd⟩ => ⟨he, hd⟩
theorem c_count {r : Int} (h0 : InP A0 c0 l0 W) (ev : Ev (fun k => span_Count.f k l0) r) : Calls Try.prog 29 #[.slice A0 l0.length c0] W (PI W .i64 r) := by
  obtain ⟨k, hk⟩ := ev.rounds
  exact (span_Count.calls k A0 c0 l0 r W h0.1 h0.2 hk).mono fun e w' ⟨he, hd⟩ => ⟨he, hd⟩
theorem c_at {r : Int} (a : Int) (h0 : InP A0 c0 l0 W) (ev : Ev (fun k => span_At.f k l0 a) r) : Calls Try.prog 30 #[.slice A0 l0.length c0, .int .i64 a] W (PI W .i32 r) := by
  obtain ⟨k, hk⟩ := ev.rounds
  exact (span_At.calls k A0 c0 l0 a r W h0.1 h0.2 hk).mono fun e w' ⟨he, hd⟩ => ⟨he, hd⟩
theorem c_place {r : Int} (a : Int) (h0 : InP A0 c0 l0 W) (ev : Ev (fun k => span_Place.f k l0 a) r) : Calls Try.prog 31 #[.slice A0 l0.length c0, .int .i32 a] W (PI W .i64 r) := by
  obtain ⟨k, hk⟩ := ev.rounds
  exact (span_Place.calls k A0 c0 l0 a r W h0.1 h0.2 hk).mono fun e w' ⟨he, hd⟩ => ⟨he, hd⟩
theorem c_next {r : Int} (a : Int) (h0 : InP A0 c0 l0 W) (ev : Ev (fun k => span_Next.f k l0 a) r) : Calls Try.prog 32 #[.slice A0 l0.length c0, .int .i32 a] W (PI W .i32 r) := by
  obtain ⟨k, hk⟩ := ev.rounds
  exact (span_Next.calls k A0 c0 l0 a r W h0.1 h0.2 hk).mono fun e w' ⟨he, hd⟩ => ⟨he, hd⟩
theorem c_make {r : List Sn} {n m : Int} (h0 : InP A0 c0 l0 W) (ev : span_Make.f l0 = some (r, n, m)) : Calls Try.prog 12 #[.slice A0 l0.length c0] W (P3 W r n m) := by
  refine (span_Make.calls A0 c0 l0 r n m W h0.1 h0.2 ev).mono ?_
  rintro e w' ⟨v, rfl, hR, hb⟩
  obtain ⟨A, c, rfl, hI⟩ := own_P (w := W) hR
  exact ⟨A, c, rfl, hI, hb⟩
end

end Go.Proofs.Ytkpdccegamcppaa.PSpan
