/- A law's argument that is a list of api.Span, opened to its numbers. -/
import Derived.Test.YtajmbafljncjcaaRowStageOver
import Derived.Test.YtajmbafljncjcaaSpI
namespace Go.Proofs.Ytajmbafljncjcaa.PStageOver
open Go.RowKit Go.ChangeShapes Go.WideShapes Go.Proofs.YtajmbafljncjcaaW.PrintWords Go.Proofs.YtajmbafljncjcaaW.PrintLast Go.Proofs.YtajmbafljncjcaaW.PrintMore Go.Proofs.Ytajmbafljncjcaa.Stage
set_option linter.unusedVariables false
set_option linter.unusedSimpArgs false

section
variable {H : Type} {enc : TypeId × Value → H} {w : World} {base : Nat} {spare : Nat → Bool} {held : Bool}

theorem fieldsP : ∃ f0 f1 : Field, Try.prog.underlying 47 = some (.struct #[f0, f1]) ∧ Try.prog.cellsOf 47 = 2 ∧ f0.offset = 0 ∧ f1.offset = 1 ∧
    Try.prog.cellsOf f0.type = 1 ∧ Try.prog.cellsOf f1.type = 1 ∧ Try.prog.underlying f0.type = some (.int .i32) ∧ Try.prog.underlying f1.type = some (.int .i32) :=
  ⟨_, _, Try.underlying47, by kernel_rfl, rfl, rfl, by kernel_rfl, by kernel_rfl, by kernel_rfl, by kernel_rfl⟩
def FitI (l : List (Int × Int)) : Prop := ∀ i, i < l.length → (-2147483648 ≤ (l.getD i (0, 0)).1 ∧ (l.getD i (0, 0)).1 ≤ 2147483647) ∧ (-2147483648 ≤ (l.getD i (0, 0)).2 ∧ (l.getD i (0, 0)).2 ≤ 2147483647)
set_option maxRecDepth 100000 in
theorem open_spi {fuel : Nat} {cs : List Value} {x : DataW H × List MemPlace} (h : DataW.trod enc Try.prog w base spare held fuel 42 cs = some x) :
    ∃ (A : Option Addr) (cap : Nat) (l : List (Int × Int)), cs = [.slice A l.length cap] ∧ l.length ≤ cap ∧ FitI l ∧ l.length ≤ Rows.uptoBulk x.1 ∧ SpI w A l := by
  obtain ⟨f0, f1, hs, hc, o0, o1, c0, c1, u0, u1⟩ := fieldsP
  rcases Go.Deep.open_slice Try.underlying42 h with ⟨h1, h2⟩ | ⟨a, len, cap, m, n, D, Pl, hcs, hb, hl, hm, hmm, hx, hi⟩
  · exact ⟨none, 0, [], h1, Nat.le_refl _, (fun i hi => absurd hi (Nat.not_lt_zero i)), Nat.zero_le _, fun i hi => absurd hi (Nat.not_lt_zero i)⟩
  · have hlm : len ≤ m := by rw [hmm]; split <;> omega
    have each : ∀ i, i < len → ∃ q : Int × Int, w.cell? (a.add (i * 2 + 0)) = some (.int .i32 q.1) ∧ w.cell? (a.add (i * 2 + 1)) = some (.int .i32 q.2) ∧
        (-2147483648 ≤ q.1 ∧ q.1 ≤ 2147483647) ∧ (-2147483648 ≤ q.2 ∧ q.2 ≤ 2147483647) := by
      intro i hil
      obtain ⟨cs', k1, k2⟩ := hi i (by omega)
      rw [hc] at k1
      obtain ⟨_, hlen, hcell⟩ := World.cells?_some k1
      obtain ⟨xs, k, hk, hxy, _, hxl, hf⟩ := DataW.trod_struct hs k2
      match xs, hxl, cs', hlen with
      | [y0, y1], _, [v0, v1], _ =>
        have g0 := hf 0 f0 rfl
        have g1 := hf 1 f1 rfl
        simp [o0, o1, c0, c1] at g0 g1
        obtain ⟨n0, e0, _, w0⟩ := DataW.trod_int u0 g0
        obtain ⟨n1, e1, _, w1⟩ := DataW.trod_int u1 g1
        simp only [List.cons.injEq, and_true] at e0 e1
        subst e0 e1
        have q0 := hcell 0 (by omega)
        have q1 := hcell 1 (by omega)
        rw [Go.Deep.add_add] at q0 q1
        have b0 : -2147483648 ≤ n0 ∧ n0 ≤ 2147483647 := by simpa [Lit.wf, IntKind.min, IntKind.max, IntKind.signed, IntKind.bits] using w0
        have b1 : -2147483648 ≤ n1 ∧ n1 ≤ 2147483647 := by simpa [Lit.wf, IntKind.min, IntKind.max, IntKind.signed, IntKind.bits] using w1
        exact ⟨(n0, n1), by simpa using q0, by simpa using q1, b0, b1⟩
    have each' : ∀ i, ∃ q : Int × Int, i < len → (w.cell? (a.add (i * 2 + 0)) = some (.int .i32 q.1) ∧ w.cell? (a.add (i * 2 + 1)) = some (.int .i32 q.2) ∧
        (-2147483648 ≤ q.1 ∧ q.1 ≤ 2147483647) ∧ (-2147483648 ≤ q.2 ∧ q.2 ≤ 2147483647)) := fun i => by
      by_cases hil : i < len
      · obtain ⟨q, hq⟩ := each i hil
        exact ⟨q, fun _ => hq⟩
      · exact ⟨(0, 0), fun h => absurd h hil⟩
    obtain ⟨F, hF⟩ : ∃ F : Nat → Int × Int, ∀ i, i < len → (w.cell? (a.add (i * 2 + 0)) = some (.int .i32 (F i).1) ∧ w.cell? (a.add (i * 2 + 1)) = some (.int .i32 (F i).2) ∧
        (-2147483648 ≤ (F i).1 ∧ (F i).1 ≤ 2147483647) ∧ (-2147483648 ≤ (F i).2 ∧ (F i).2 ≤ 2147483647)) := ⟨fun i => (each' i).choose, fun i => (each' i).choose_spec⟩
    have hlen : ((List.range len).map F).length = len := by simp
    have hget : ∀ i, i < len → ((List.range len).map F).getD i (0, 0) = F i := fun i hi => by simp [List.getD_eq_getElem?_getD, List.getElem?_map, List.getElem?_range hi]
    refine ⟨some a, cap, (List.range len).map F, by rw [hlen]; exact hcs, by rw [hlen]; exact hl, fun i hi' => ?_, ?_, fun i hi' => ?_⟩
    · rw [hlen] at hi'
      rw [hget i hi']
      exact (hF i hi').2.2
    · rw [hlen, hx]
      have := bulk_slice ((List.range len).map D) ((List.range (m - len)).map fun j => D (len + j))
      simpa using this
    · rw [hlen] at hi'
      have hq := hF i hi'
      rw [hget i hi']
      refine ⟨a, rfl, by simpa using hq.1, ?_⟩
      have := hq.2.1
      rw [← Go.Deep.add_add] at this
      exact this

end

end Go.Proofs.Ytajmbafljncjcaa.PStageOver
