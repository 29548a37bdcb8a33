/- A law's argument that is a posternlaw08.Change, opened to its numbers, its bytes, its text. -/
import Derived.Test.YtajmbafljncjcaaRowStageOver
import Derived.Lib.SmallJoins
import Derived.ShutString
namespace Go.Proofs.Ytajmbafljncjcaa.PStageOver
open Go.RowKit Go.ChangeShapes Go.WideShapes Go.Joins Go.Deep Go.Proofs.YtajmbafljncjcaaW.PrintWords Go.Proofs.YtajmbafljncjcaaW.PrintLast Go.Proofs.YtajmbafljncjcaaW.PrintMore
set_option linter.unusedVariables false
set_option linter.unusedSimpArgs false

section
variable {H : Type} {enc : TypeId × Value → H} {w : World} {base : Nat} {spare : Nat → Bool} {held : Bool}
/-- A list of numbers that came in. -/
theorem open_ints {fuel : Nat} {cs : List Value} {x : DataW H × List MemPlace} (h : DataW.trod enc Try.prog w base spare held fuel 54 cs = some x) :
    ∃ (A : Option Addr) (cap : Nat) (l : List Int), cs = [.slice A l.length cap] ∧ l.length ≤ cap ∧ (∀ p ∈ l, -9223372036854775808 ≤ p ∧ p ≤ 9223372036854775807) ∧ l.length ≤ Rows.uptoBulk x.1 ∧ Kd.C (Kd.int .i64) w A l.length l := by
  rcases Go.Deep.open_slice Try.underlying54 h with ⟨h1, h2⟩ | ⟨a, len, cap, m, n, D, Pl, hcs, hb, hl, hm, hmm, hx, hi⟩
  · exact ⟨none, 0, [], h1, Nat.le_refl _, (fun x hx => by cases hx), Nat.zero_le _, rfl, Nat.zero_le _, (fun hp => absurd hp (Nat.lt_irrefl 0))⟩
  · have hlm : len ≤ m := by rw [hmm]; split <;> omega
    have hc : Try.prog.cellsOf 3 = 1 := by kernel_rfl
    have each' : ∀ i, ∃ q : Int, i < len → (w.cell? (a.add (i * 1 + 0)) = some (.int .i64 q) ∧ -9223372036854775808 ≤ q ∧ q ≤ 9223372036854775807) := fun i => by
      by_cases hil : i < len
      · obtain ⟨cs', k1, k2⟩ := hi i (by omega)
        rw [hc] at k1
        obtain ⟨_, hlen, hcell⟩ := World.cells?_some k1
        obtain ⟨n0, e0, _, w0⟩ := DataW.trod_int Try.underlying3 k2
        subst e0
        have q0 := hcell 0 (by omega)
        rw [Go.Deep.add_add] at q0
        have b0 : -9223372036854775808 ≤ n0 ∧ n0 ≤ 9223372036854775807 := by simpa [Lit.wf, IntKind.min, IntKind.max, IntKind.signed, IntKind.bits] using w0
        exact ⟨n0, fun _ => ⟨by simpa using q0, b0⟩⟩
      · exact ⟨0, fun h => absurd h hil⟩
    obtain ⟨F, hF⟩ : ∃ F : Nat → Int, ∀ i, i < len → (w.cell? (a.add (i * 1 + 0)) = some (.int .i64 (F i)) ∧ -9223372036854775808 ≤ F i ∧ F i ≤ 9223372036854775807) := ⟨fun i => (each' i).choose, fun i => (each' i).choose_spec⟩
    have hlen : ((List.range len).map F).length = len := by simp
    refine ⟨some a, cap, (List.range len).map F, by rw [hlen]; exact hcs, by rw [hlen]; exact hl, fun x hx => ?_, ?_, ?_⟩
    · obtain ⟨i, hi', rfl⟩ := List.mem_map.1 hx
      exact (hF i (List.mem_range.1 hi')).2
    · rw [hlen, hx]
      have := bulk_slice ((List.range len).map D) ((List.range (m - len)).map fun j => D (len + j))
      simpa using this
    · refine ⟨rfl, by rw [hlen]; simp [maxLen] at hm; omega, fun _ => ⟨a, rfl, fun j p hp => ?_⟩⟩
      obtain ⟨hj, rfl⟩ := List.getElem?_eq_some_iff.1 hp
      rw [hlen] at hj
      have hq := hF j hj
      simp only [List.getElem_map, List.getElem_range]
      refine ⟨[.int .i64 (F j)], rfl, rfl, fun i u hu => ?_⟩
      match i, hu with
      | 0, hu => cases hu; exact hq.1
/-- A list of bytes that came in. -/
theorem open_bytes {fuel : Nat} {cs : List Value} {x : DataW H × List MemPlace} (h : DataW.trod enc Try.prog w base spare held fuel 55 cs = some x) :
    ∃ (A : Option Addr) (cap : Nat) (l : List Int), cs = [.slice A l.length cap] ∧ l.length ≤ cap ∧ (∀ p ∈ l, 0 ≤ p ∧ p ≤ 255) ∧ l.length ≤ Rows.uptoBulk x.1 ∧ Kd.C (Kd.int .u8) w A l.length l := by
  rcases Go.Deep.open_slice Try.underlying55 h with ⟨h1, h2⟩ | ⟨a, len, cap, m, n, D, Pl, hcs, hb, hl, hm, hmm, hx, hi⟩
  · exact ⟨none, 0, [], h1, Nat.le_refl _, (fun x hx => by cases hx), Nat.zero_le _, rfl, Nat.zero_le _, (fun hp => absurd hp (Nat.lt_irrefl 0))⟩
  · have hlm : len ≤ m := by rw [hmm]; split <;> omega
    have hc : Try.prog.cellsOf 5 = 1 := by kernel_rfl
    have each' : ∀ i, ∃ q : Int, i < len → (w.cell? (a.add (i * 1 + 0)) = some (.int .u8 q) ∧ 0 ≤ q ∧ q ≤ 255) := fun i => by
      by_cases hil : i < len
      · obtain ⟨cs', k1, k2⟩ := hi i (by omega)
        rw [hc] at k1
        obtain ⟨_, hlen, hcell⟩ := World.cells?_some k1
        obtain ⟨n0, e0, _, w0⟩ := DataW.trod_int Try.underlying5 k2
        subst e0
        have q0 := hcell 0 (by omega)
        rw [Go.Deep.add_add] at q0
        have b0 : 0 ≤ n0 ∧ n0 ≤ 255 := by simpa [Lit.wf, IntKind.min, IntKind.max, IntKind.signed, IntKind.bits] using w0
        exact ⟨n0, fun _ => ⟨by simpa using q0, b0⟩⟩
      · exact ⟨0, fun h => absurd h hil⟩
    obtain ⟨F, hF⟩ : ∃ F : Nat → Int, ∀ i, i < len → (w.cell? (a.add (i * 1 + 0)) = some (.int .u8 (F i)) ∧ 0 ≤ F i ∧ F i ≤ 255) := ⟨fun i => (each' i).choose, fun i => (each' i).choose_spec⟩
    have hlen : ((List.range len).map F).length = len := by simp
    refine ⟨some a, cap, (List.range len).map F, by rw [hlen]; exact hcs, by rw [hlen]; exact hl, fun x hx => ?_, ?_, ?_⟩
    · obtain ⟨i, hi', rfl⟩ := List.mem_map.1 hx
      exact (hF i (List.mem_range.1 hi')).2
    · rw [hlen, hx]
      have := bulk_slice ((List.range len).map D) ((List.range (m - len)).map fun j => D (len + j))
      simpa using this
    · refine ⟨rfl, by rw [hlen]; simp [maxLen] at hm; omega, fun _ => ⟨a, rfl, fun j p hp => ?_⟩⟩
      obtain ⟨hj, rfl⟩ := List.getElem?_eq_some_iff.1 hp
      rw [hlen] at hj
      have hq := hF j hj
      simp only [List.getElem_map, List.getElem_range]
      refine ⟨[.int .u8 (F j)], rfl, rfl, fun i u hu => ?_⟩
      match i, hu with
      | 0, hu => cases hu; exact hq.1
set_option maxRecDepth 100000 in
theorem fieldsC : ∃ f0 f1 f2 f3 : Field, Try.prog.underlying 57 = some (.struct #[f0, f1, f2, f3]) ∧ oneCellFields Try.prog #[f0, f1, f2, f3] = true ∧ Try.prog.cellsOf 57 = 4 ∧
    f0.type = 54 ∧ f1.type = 55 ∧ f2.type = 9 ∧ f3.type = 3 :=
  ⟨_, _, _, _, Try.underlying57, by kernel_rfl, by kernel_rfl, rfl, rfl, rfl, rfl⟩
set_option maxRecDepth 100000 in
theorem open_change {r : Reach} {b0 : Nat} {v : Value} {d : DataW H} {p : List MemPlace} (hv : Value.okWide Try.prog w r b0 57 v) (h : DataW.Trod enc Try.prog w base spare held 57 v d p) (hb : Rows.uptoBulk d ≤ 1048576) :
    ∃ (A2 : Option Addr) (c2 : Nat) (zs : List Int) (A3 : Option Addr) (c3 : Nat) (ys : List Int) (bs : ByteArray) (cut : Int), v = .agg #[.slice A2 zs.length c2, .slice A3 ys.length c3, .string bs, .int .i64 cut] ∧
      Kd.C (Kd.int .i64) w A2 zs.length zs ∧ (∀ p ∈ zs, -9223372036854775808 ≤ p ∧ p ≤ 9223372036854775807) ∧ zs.length ≤ 1048576 ∧ Kd.C (Kd.int .u8) w A3 ys.length ys ∧ (∀ p ∈ ys, 0 ≤ p ∧ p ≤ 255) ∧ ys.length ≤ 1048576 ∧ bs.size ≤ 1048576 ∧ (-9223372036854775808 ≤ cut ∧ cut ≤ 9223372036854775807) := by
  obtain ⟨f0, f1, f2, f3, hs, ho, hc, u0, u1, u2, u3⟩ := fieldsC
  obtain ⟨v0, v1, v2, v3, y0, y1, y2, y3, n, rfl, rfl, _, g0, g1, g2, g3⟩ := open_agg4 hs ho hc hv h
  rw [u0] at g0
  rw [u1] at g1
  rw [u2] at g2
  rw [u3] at g3
  obtain ⟨A2, c2, zs, e0, _, k1, k2, k3⟩ := open_ints g0
  obtain ⟨A3, c3, ys, e1, _, m1, m2, m3⟩ := open_bytes g1
  obtain ⟨bs, e2, x2, _⟩ := DataW.trod_string Try.underlying9 g2
  obtain ⟨cut, e3, _, w3⟩ := DataW.trod_int Try.underlying3 g3
  simp only [List.cons.injEq, and_true] at e0 e1 e2 e3
  subst e0 e1 e2 e3
  have b0 := bulk_mem (d := y0.1) (l := [y0.1, y1.1, y2.1, y3.1]) (by simp)
  have b1 := bulk_mem (d := y1.1) (l := [y0.1, y1.1, y2.1, y3.1]) (by simp)
  have b2 := bulk_mem (d := y2.1) (l := [y0.1, y1.1, y2.1, y3.1]) (by simp)
  have b4 : Rows.uptoBulk (DataW.agg [y0.1, y1.1, y2.1, y3.1]) = Rows.uptoBulkAll [y0.1, y1.1, y2.1, y3.1] + 1 := by simp [Rows.uptoBulk]
  have b5 : Rows.uptoBulk y2.1 = bs.size + 1 := by rw [x2]; simp [Rows.uptoBulk]
  exact ⟨A2, c2, zs, A3, c3, ys, bs, cut, rfl, k3, k1, by omega, m3, m1, by omega, by omega, by simpa [Lit.wf, IntKind.min, IntKind.max, IntKind.signed, IntKind.bits] using w3⟩
end

end Go.Proofs.Ytajmbafljncjcaa.PStageOver
