/- A law's argument that is a posternlaw08.Ask, opened to its numbers. -/
import Derived.Test.YtajmbafljncjcaaRowStageOver
import Derived.Lib.SmallJoins
namespace Go.Proofs.Ytajmbafljncjcaa.PStageOver
open Go.RowKit Go.ChangeShapes Go.WideShapes Go.Joins Go.Deep
set_option linter.unusedVariables false
set_option linter.unusedSimpArgs false

section
variable {H : Type} {enc : TypeId × Value → H} {w : World} {base : Nat} {spare : Nat → Bool} {held : Bool}
set_option maxRecDepth 100000 in
theorem fieldsA : ∃ f0 f1 f2 f3 : Field, Try.prog.underlying 67 = some (.struct #[f0, f1, f2, f3]) ∧ oneCellFields Try.prog #[f0, f1, f2, f3] = true ∧ Try.prog.cellsOf 67 = 4 ∧
    Try.prog.underlying f0.type = some (.int .i64) ∧ Try.prog.underlying f1.type = some (.int .i64) ∧ Try.prog.underlying f2.type = some (.int .i32) ∧ Try.prog.underlying f3.type = some (.int .i32) :=
  ⟨_, _, _, _, Try.underlying67, by kernel_rfl, by kernel_rfl, by kernel_rfl, by kernel_rfl, by kernel_rfl, by kernel_rfl⟩
set_option maxRecDepth 100000 in
theorem open_ask {r : Reach} {b0 : Nat} {v : Value} {d : DataW H} {p : List MemPlace} (hv : Value.okWide Try.prog w r b0 67 v) (h : DataW.Trod enc Try.prog w base spare held 67 v d p) :
    ∃ N M F T : Int, v = .agg #[.int .i64 N, .int .i64 M, .int .i32 F, .int .i32 T] ∧ (-2147483648 ≤ F ∧ F ≤ 2147483647) ∧ (-2147483648 ≤ T ∧ T ≤ 2147483647) := by
  obtain ⟨f0, f1, f2, f3, hs, ho, hc, u0, u1, u2, u3⟩ := fieldsA
  obtain ⟨v0, v1, v2, v3, y0, y1, y2, y3, n, rfl, _, _, g0, g1, g2, g3⟩ := open_agg4 hs ho hc hv h
  obtain ⟨n0, e0, _, w0⟩ := DataW.trod_int u0 g0
  obtain ⟨n1, e1, _, w1⟩ := DataW.trod_int u1 g1
  obtain ⟨n2, e2, _, w2⟩ := DataW.trod_int u2 g2
  obtain ⟨n3, e3, _, w3⟩ := DataW.trod_int u3 g3
  simp only [List.cons.injEq, and_true] at e0 e1 e2 e3
  subst e0 e1 e2 e3
  exact ⟨n0, n1, n2, n3, rfl, by simpa [Lit.wf, IntKind.min, IntKind.max, IntKind.signed, IntKind.bits] using w2, by simpa [Lit.wf, IntKind.min, IntKind.max, IntKind.signed, IntKind.bits] using w3⟩
end

end Go.Proofs.Ytajmbafljncjcaa.PStageOver
