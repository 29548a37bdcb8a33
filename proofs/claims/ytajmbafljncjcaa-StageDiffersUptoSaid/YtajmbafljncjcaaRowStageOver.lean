/- A law's argument that is a list of api.Value, opened to its numbers; how long it may be under the second form's bound. -/
import Derived.Test.YtajmbafljncjcaaAwakeStageOver
import Derived.Test.YtajmbafljncjcaaRows
import Derived.Deep.Slices
import Derived.ProofKit
import Derived.OpenShut
import Derived.ChangeOld
import Derived.Carry
import Derived.JoinedCond
import Derived.ChangeSlices
namespace Go.Proofs.Ytajmbafljncjcaa.PStageOver
open Go.RowKit Go.ChangeShapes Go.WideShapes Go.Proofs.YtajmbafljncjcaaW.PrintWords Go.Proofs.YtajmbafljncjcaaW.PrintLast Go.Proofs.YtajmbafljncjcaaW.PrintMore Go.Proofs.Ytajmbafljncjcaa.Stage
set_option linter.unusedVariables false
set_option linter.unusedSimpArgs false

theorem law_own : ownKnob Try.prog.godebug = none := by kernel_rfl
theorem law_laid : laidOutB Try.prog = true := by kernel_rfl

section
variable {H : Type} {enc : TypeId × Value → H} {w : World} {base : Nat} {spare : Nat → Bool} {held : Bool}

theorem bulk_pos (d : DataW H) : 1 ≤ Rows.uptoBulk d := by
  cases d with
  | lit l => cases l <;> simp [Rows.uptoBulk]
  | nil => simp [Rows.uptoBulk]
  | ptr d => simp [Rows.uptoBulk]
  | slice elems spare => simp [Rows.uptoBulk]
  | agg parts => simp [Rows.uptoBulk]
  | iface t d => simp [Rows.uptoBulk]
  | map entries => simp [Rows.uptoBulk]
  | held h => simp [Rows.uptoBulk]
theorem bulk_len : ∀ (l : List (DataW H)), l.length ≤ Rows.uptoBulkAll l
  | [] => by simp [Rows.uptoBulkAll]
  | d :: l => by have h1 := bulk_pos d; have h2 := bulk_len l; simp only [Rows.uptoBulkAll, List.length_cons]; omega
theorem bulk_mem {d : DataW H} : ∀ {l : List (DataW H)}, d ∈ l → Rows.uptoBulk d ≤ Rows.uptoBulkAll l
  | [], h => by cases h
  | x :: l, h => by
    simp only [Rows.uptoBulkAll]
    rcases List.mem_cons.1 h with rfl | h
    · omega
    · have := bulk_mem h; omega
theorem bulk_slice (elems sp : List (DataW H)) : elems.length ≤ Rows.uptoBulk (.slice elems sp) := by
  have := bulk_len elems
  simp only [Rows.uptoBulk]
  omega
theorem bulk_small {l : List (DataW H)} (h : Rows.uptoSmall H l = true) : Rows.uptoBulkAll l ≤ 1048576 := of_decide_eq_true h

theorem fieldsV : ∃ f0 f1 f2 : Field, Try.prog.underlying 40 = some (.struct #[f0, f1, f2]) ∧ Try.prog.cellsOf 40 = 3 ∧ f0.offset = 0 ∧ f1.offset = 1 ∧ f2.offset = 2 ∧
    Try.prog.cellsOf f0.type = 1 ∧ Try.prog.cellsOf f1.type = 1 ∧ Try.prog.cellsOf f2.type = 1 ∧ Try.prog.underlying f0.type = some (.int .i32) ∧ Try.prog.underlying f1.type = some (.int .i32) ∧ Try.prog.underlying f2.type = some (.int .i64) :=
  ⟨_, _, _, Try.underlying40, by kernel_rfl, rfl, rfl, rfl, by kernel_rfl, by kernel_rfl, by kernel_rfl, by kernel_rfl, by kernel_rfl, by kernel_rfl⟩

set_option maxRecDepth 100000 in
/-- A list of api.Value that came in. -/
theorem open_rows {fuel : Nat} {cs : List Value} {x : DataW H × List MemPlace} (h : DataW.trod enc Try.prog w base spare held fuel 22 cs = some x) :
    ∃ (A : Option Addr) (cap : Nat) (l : List S40), cs = [.slice A l.length cap] ∧ l.length ≤ cap ∧ Fits l ∧ l.length ≤ Rows.uptoBulk x.1 ∧ Kd.C k40 w A l.length l := by
  obtain ⟨f0, f1, f2, hs, hc, o0, o1, o2, c0, c1, c2, u0, u1, u2⟩ := fieldsV
  rcases Go.Deep.open_slice Try.underlying22 h with ⟨h1, h2⟩ | ⟨a, len, cap, m, n, D, Pl, hcs, hb, hl, hm, hmm, hx, hi⟩
  · exact ⟨none, 0, [], h1, Nat.le_refl _, (fun x hx => by cases hx), Nat.zero_le _, rfl, Nat.zero_le _, (fun hp => absurd hp (Nat.lt_irrefl 0))⟩
  · have hlm : len ≤ m := by rw [hmm]; split <;> omega
    have each : ∀ i, i < len → ∃ q : S40, w.cell? (a.add (i * 3 + 0)) = some (.int .i32 q.f0) ∧ w.cell? (a.add (i * 3 + 1)) = some (.int .i32 q.f1) ∧ w.cell? (a.add (i * 3 + 2)) = some (.int .i64 q.f2) ∧
        (-2147483648 ≤ q.f0 ∧ q.f0 ≤ 2147483647) ∧ (-2147483648 ≤ q.f1 ∧ q.f1 ≤ 2147483647) := by
      intro i hil
      obtain ⟨cs', k1, k2⟩ := hi i (by omega)
      rw [hc] at k1
      obtain ⟨_, hlen, hcell⟩ := World.cells?_some k1
      obtain ⟨xs, k, hk, hxy, _, hxl, hf⟩ := DataW.trod_struct hs k2
      match xs, hxl, cs', hlen with
      | [y0, y1, y2], _, [v0, v1, v2], _ =>
        have g0 := hf 0 f0 rfl
        have g1 := hf 1 f1 rfl
        have g2 := hf 2 f2 rfl
        simp [o0, o1, o2, c0, c1, c2] at g0 g1 g2
        obtain ⟨n0, e0, _, w0⟩ := DataW.trod_int u0 g0
        obtain ⟨n1, e1, _, w1⟩ := DataW.trod_int u1 g1
        obtain ⟨n2, e2, _, w2⟩ := DataW.trod_int u2 g2
        simp only [List.cons.injEq, and_true] at e0 e1 e2
        subst e0 e1 e2
        have q0 := hcell 0 (by omega)
        have q1 := hcell 1 (by omega)
        have q2 := hcell 2 (by omega)
        rw [Go.Deep.add_add] at q0 q1 q2
        have b0 : -2147483648 ≤ n0 ∧ n0 ≤ 2147483647 := by simpa [Lit.wf, IntKind.min, IntKind.max, IntKind.signed, IntKind.bits] using w0
        have b1 : -2147483648 ≤ n1 ∧ n1 ≤ 2147483647 := by simpa [Lit.wf, IntKind.min, IntKind.max, IntKind.signed, IntKind.bits] using w1
        exact ⟨⟨n0, n1, n2⟩, by simpa using q0, by simpa using q1, by simpa using q2, b0, b1⟩
    have each' : ∀ i, ∃ q : S40, i < len → (w.cell? (a.add (i * 3 + 0)) = some (.int .i32 q.f0) ∧ w.cell? (a.add (i * 3 + 1)) = some (.int .i32 q.f1) ∧ w.cell? (a.add (i * 3 + 2)) = some (.int .i64 q.f2) ∧
        (-2147483648 ≤ q.f0 ∧ q.f0 ≤ 2147483647) ∧ (-2147483648 ≤ q.f1 ∧ q.f1 ≤ 2147483647)) := fun i => by
      by_cases hil : i < len
      · obtain ⟨q, hq⟩ := each i hil
        exact ⟨q, fun _ => hq⟩
      · exact ⟨z40, fun h => absurd h hil⟩
    obtain ⟨F, hF⟩ : ∃ F : Nat → S40, ∀ i, i < len → (w.cell? (a.add (i * 3 + 0)) = some (.int .i32 (F i).f0) ∧ w.cell? (a.add (i * 3 + 1)) = some (.int .i32 (F i).f1) ∧ w.cell? (a.add (i * 3 + 2)) = some (.int .i64 (F i).f2) ∧
        (-2147483648 ≤ (F i).f0 ∧ (F i).f0 ≤ 2147483647) ∧ (-2147483648 ≤ (F i).f1 ∧ (F i).f1 ≤ 2147483647)) := ⟨fun i => (each' i).choose, fun i => (each' i).choose_spec⟩
    have hlen : ((List.range len).map F).length = len := by simp
    refine ⟨some a, cap, (List.range len).map F, by rw [hlen]; exact hcs, by rw [hlen]; exact hl, fun x hx => ?_, ?_, ?_⟩
    · obtain ⟨i, hi', rfl⟩ := List.mem_map.1 hx
      have := hF i (List.mem_range.1 hi')
      exact ⟨this.2.2.2.1, this.2.2.2.2⟩
    · rw [hlen, hx]
      have := bulk_slice ((List.range len).map D) ((List.range (m - len)).map fun j => D (len + j))
      simpa using this
    · refine ⟨rfl, by rw [hlen]; simp [maxLen] at hm; omega, fun _ => ⟨a, rfl, fun j p hp => ?_⟩⟩
      obtain ⟨hj, rfl⟩ := List.getElem?_eq_some_iff.1 hp
      rw [hlen] at hj
      have hq := hF j hj
      simp only [List.getElem_map, List.getElem_range]
      refine ⟨_, rfl, k40_mk _ _, fun i u hu => ?_⟩
      match i, hu with
      | 0, hu => cases hu; exact hq.1
      | 1, hu => cases hu; exact hq.2.1
      | 2, hu => cases hu; exact hq.2.2.1

/-- A list of code points that came in. -/
theorem open_runes {fuel : Nat} {cs : List Value} {x : DataW H × List MemPlace} (h : DataW.trod enc Try.prog w base spare held fuel 48 cs = some x) :
    ∃ (A : Option Addr) (cap : Nat) (l : List Int), cs = [.slice A l.length cap] ∧ l.length ≤ cap ∧ (∀ p ∈ l, -2147483648 ≤ p ∧ p ≤ 2147483647) ∧ l.length ≤ Rows.uptoBulk x.1 ∧ Kd.C (Kd.int .i32) w A l.length l := by
  rcases Go.Deep.open_slice Try.underlying48 h with ⟨h1, h2⟩ | ⟨a, len, cap, m, n, D, Pl, hcs, hb, hl, hm, hmm, hx, hi⟩
  · exact ⟨none, 0, [], h1, Nat.le_refl _, (fun x hx => by cases hx), Nat.zero_le _, rfl, Nat.zero_le _, (fun hp => absurd hp (Nat.lt_irrefl 0))⟩
  · have hlm : len ≤ m := by rw [hmm]; split <;> omega
    have hc : Try.prog.cellsOf 21 = 1 := by kernel_rfl
    have each' : ∀ i, ∃ q : Int, i < len → (w.cell? (a.add (i * 1 + 0)) = some (.int .i32 q) ∧ -2147483648 ≤ q ∧ q ≤ 2147483647) := fun i => by
      by_cases hil : i < len
      · obtain ⟨cs', k1, k2⟩ := hi i (by omega)
        rw [hc] at k1
        obtain ⟨_, hlen, hcell⟩ := World.cells?_some k1
        obtain ⟨n0, e0, _, w0⟩ := DataW.trod_int Try.underlying21 k2
        subst e0
        have q0 := hcell 0 (by omega)
        rw [Go.Deep.add_add] at q0
        have b0 : -2147483648 ≤ n0 ∧ n0 ≤ 2147483647 := by simpa [Lit.wf, IntKind.min, IntKind.max, IntKind.signed, IntKind.bits] using w0
        exact ⟨n0, fun _ => ⟨by simpa using q0, b0⟩⟩
      · exact ⟨0, fun h => absurd h hil⟩
    obtain ⟨F, hF⟩ : ∃ F : Nat → Int, ∀ i, i < len → (w.cell? (a.add (i * 1 + 0)) = some (.int .i32 (F i)) ∧ -2147483648 ≤ F i ∧ F i ≤ 2147483647) := ⟨fun i => (each' i).choose, fun i => (each' i).choose_spec⟩
    have hlen : ((List.range len).map F).length = len := by simp
    refine ⟨some a, cap, (List.range len).map F, by rw [hlen]; exact hcs, by rw [hlen]; exact hl, fun x hx => ?_, ?_, ?_⟩
    · obtain ⟨i, hi', rfl⟩ := List.mem_map.1 hx
      exact (hF i (List.mem_range.1 hi')).2
    · rw [hlen, hx]
      have := bulk_slice ((List.range len).map D) ((List.range (m - len)).map fun j => D (len + j))
      simpa using this
    · refine ⟨rfl, by rw [hlen]; simp [maxLen] at hm; omega, fun _ => ⟨a, rfl, fun j p hp => ?_⟩⟩
      obtain ⟨hj, rfl⟩ := List.getElem?_eq_some_iff.1 hp
      rw [hlen] at hj
      have hq := hF j hj
      simp only [List.getElem_map, List.getElem_range]
      refine ⟨[.int .i32 (F j)], rfl, rfl, fun i u hu => ?_⟩
      match i, hu with
      | 0, hu => cases hu; exact hq.1
end

end Go.Proofs.Ytajmbafljncjcaa.PStageOver
