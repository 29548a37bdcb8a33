/- The document's stretches, and where they lie. -/
import Derived.Test.YtajmbafljncjcaaRefBStageOver
namespace Go.Proofs.Ytajmbafljncjcaa.PStageOver
open Go.RowKit Go.Proofs.YtajmbafljncjcaaW.PrintWords Go.Proofs.YtajmbafljncjcaaW.PrintLast Go.Proofs.YtajmbafljncjcaaW.PrintMore Go.Proofs.Ytajmbafljncjcaa.Stage Go.Proofs.Ytajmbafljncjcaa.Mp
set_option linter.unusedVariables false
set_option linter.unusedSimpArgs false

theorem R_head {α : Type} {d : Kd α} {e base : Nat} {w : World} {ok : Nat → Prop} {A : Option Addr} {n c : Nat} {xs : List α} (h : d.R e w base ok (.slice A n c) xs) (hn : 0 < xs.length) : ∃ g cells, A = some ⟨g, 0, none⟩ ∧ w.heap[g]? = some (.cells cells e (0, 0)) ∧ base ≤ g := by
  obtain ⟨inner, how⟩ := Kd.R_own h
  have hsave := how
  rcases how.2 with ⟨h0, hz⟩ | ⟨g, cap, cur, hv', _⟩
  · omega
  · injection hv' with e1 e2 e3
    subst e1
    obtain ⟨cells, hc⟩ := own_typed hsave g rfl
    exact ⟨g, cells, rfl, hc, own_base hsave g rfl⟩
theorem infoQ : (Try.prog.info? 30).map (fun i => (i.zero, i.size, i.bytes)) = some (some (.agg #[(.int .i64 0), (.int .i64 0), (.int .i64 0)]), 3, 24) := by kernel_rfl
theorem R_cellsQ {w : World} {base : Nat} {ok : Nat → Prop} {g n c : Nat} {q : List (Nat × Nat × Nat)} (h : Kd.R k30 30 w base ok (.slice (some ⟨g, 0, none⟩) n c) (q.map toS)) (i : Nat) (hi : i < q.length) :
    w.cell? ⟨g, i * 3, none⟩ = some (.int .i64 ((q.getD i z3).1 : Nat)) ∧ w.cell? ⟨g, i * 3 + 1, none⟩ = some (.int .i64 ((q.getD i z3).2.1 : Nat)) ∧ w.cell? ⟨g, i * 3 + 2, none⟩ = some (.int .i64 ((q.getD i z3).2.2 : Nat)) := by
  obtain ⟨A', c', hv, _, hC⟩ := Kd.R_reads h
  injection hv with e1 e2 e3
  subst e1
  rw [List.length_map] at hC
  obtain ⟨ad, e4, k0, k1, k2⟩ := at_T30 hC (i : Int) (by omega) (by omega)
  rw [rd_map q i hi, Int.toNat_natCast] at k0 k1 k2
  cases e4
  rw [Addr.add_lit] at k0 k1 k2
  simp only [Nat.zero_add] at k0 k1 k2
  exact ⟨k0, k1, k2⟩
/-- The stretches, and where they lie: a block of their own, which nothing else writes. -/
def RunsAt (w : World) (R : List (Nat × Nat × Nat)) (e : Ending) (w' : World) : Prop := Below w.heap.size w w' ∧ ∃ g c, e = .returned (.slice (some ⟨g, 0, none⟩) R.length c) ∧ w.heap.size ≤ g ∧ g < w'.heap.size ∧
  ∀ (W : World) (i : Nat), i < R.length → W.heap[g]? = w'.heap[g]? → W.cell? ⟨g, i * 3, none⟩ = some (.int .i64 ((R.getD i z3).1 : Nat)) ∧ W.cell? ⟨g, i * 3 + 1, none⟩ = some (.int .i64 ((R.getD i z3).2.1 : Nat)) ∧ W.cell? ⟨g, i * 3 + 2, none⟩ = some (.int .i64 ((R.getD i z3).2.2 : Nat))
theorem runsN_pos {q : List (Nat × Nat × Nat)} (h : RiseN 0 q) : 0 < (runsN [] 0 q).length := by
  have := runsN_ok h
  cases e : runsN [] 0 q with
  | nil => rw [e] at this; have : (0 : Nat) = 1114112 := this; omega
  | cons x l => simp
theorem runs_at {w : World} {q : List (Nat × Nat × Nat)} (hr : RiseN 0 q) (hl : q.length ≤ 1114112) {A : Option Addr} {c : Nat} (hC : Kd.C k30 w A q.length (q.map toS)) (hc : q.length ≤ c) : Calls Try.prog 16 #[.slice A q.length c] w (RunsAt w (runsN [] 0 q)) := by
  have hc := posternref08_Runs.calls (q.length + 1) A c (q.map toS) _ w (by rw [List.length_map]; exact hC) (by rw [List.length_map]; exact hc) (runs_f hl hr)
  rw [List.length_map] at hc
  refine hc.mono ?_
  rintro e w' ⟨vS, rfl, hR, hb⟩
  have hpos := runsN_pos hr
  obtain ⟨A2, c2, hv⟩ := Kd.R_slice hR
  rw [List.length_map] at hv
  subst hv
  obtain ⟨g, cells, rfl, hcells, hbase⟩ := R_head hR (by rw [List.length_map]; exact hpos)
  refine ⟨hb, g, c2, rfl, hbase, (Array.getElem?_eq_some_iff.1 hcells).1, fun W i hi hW => ?_⟩
  obtain ⟨k0, k1, k2⟩ := R_cellsQ hR i hi
  exact ⟨(World.cell?_of_block (a := ⟨g, i * 3, none⟩) hW).trans k0, (World.cell?_of_block (a := ⟨g, i * 3 + 1, none⟩) hW).trans k1, (World.cell?_of_block (a := ⟨g, i * 3 + 2, none⟩) hW).trans k2⟩
/-- A row that was made ahead of a block is not that block. -/
theorem R_ahead {α : Type} {d : Kd α} {e base g : Nat} {w : World} {ok : Nat → Prop} {v : Value} {xs : List α} (h : d.R e w base ok v xs) (hg : w.heap.size ≤ g) : d.R e w base (fun k => k ≠ g) v xs :=
  Kd.R_mono (Kd.R_bound h) (fun k hk => by omega)

end Go.Proofs.Ytajmbafljncjcaa.PStageOver
