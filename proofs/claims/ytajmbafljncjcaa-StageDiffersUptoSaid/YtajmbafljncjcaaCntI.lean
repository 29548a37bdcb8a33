/- counts of numbers: the map that comes of it. -/
import Derived.Test.YtajmbafljncjcaaCntC
namespace Go.Proofs.Ytajmbafljncjcaa.Stage
open Go.RowKit Go.Proofs.YtajmbafljncjcaaW.PrintWords Go.Proofs.YtajmbafljncjcaaW.PrintLast Go.Proofs.YtajmbafljncjcaaW.PrintMore Go.Proofs.Ytajmbafljncjcaa.Mp
set_option linter.unusedVariables false
set_option linter.unusedSimpArgs false

theorem keyI : KeyOk Try.prog 3 evI (fun _ => True) := by
  have hu := Try.underlying3
  have hdec : ∀ a b : Nat, ((a : Int) == (b : Int)) = decide (a = b) := fun a b => by
    by_cases h : a = b
    · subst h; simp
    · rw [decide_eq_false h]; exact beq_false_of_ne (by omega)
  refine ⟨fun w em a _ => MapKept.run_checkKey (k := .int .i64 (a : Int)) hu (show IntKind.i64 = IntKind.i64 from rfl) em 9999, fun w a b _ _ => ?_, fun a _ => ?_, ⟨_, hu, fun a b _ _ => .inr ?_⟩⟩
  · have := run_equalIn_int (P := Try.prog) w 9999 3 .i64 .i64 (a : Int) (b : Int) hu
    rw [hdec] at this
    exact this
  · show (IntKind.i64 == IntKind.i64 && ((a : Int) == (a : Int))) = true
    simp
  · show some ((a : Int) == (b : Int)) = some (decide (a = b))
    rw [hdec]

set_option maxRecDepth 100000 in
set_option maxHeartbeats 1600000 in
theorem cntI_calls (W : World) (Bm M : Nat) (l : List (Nat × Nat)) (a b n : Nat) (hab : a ≤ b) (hb : b ≤ 1114111) (hm : W.cell? ⟨Bm, 0, none⟩ = some (.map (some M))) (hM : MapB evI evI W M l) (hv : (at? n l).getD 0 ≤ 1114112) :
    Calls Try.prog 106 #[.int .i32 (a : Int), .int .i32 (b : Int), .int .i64 (n : Int), .pointer (some ⟨Bm, 0, none⟩)] W fun e w' => (∃ v, e = .returned v) ∧ ∃ o, w' = setObjAt W M o ∧ MapB evI evI w' M (addK n (b - a + 1) l) := by
  obtain ⟨o, hU, hM3⟩ := run_updateB keyI (ev := evI) Try.underlying134 hM (fun _ _ => trivial) n trivial ((at? n l).getD 0 + (b - a + 1))
  have hL := run_lookup1 keyI (ev := evI) Try.underlying134 (z := 0) zero_int hM.at (fun _ _ => trivial) n trivial
  simp only [evI] at hL hU
  have HF := Aside0.mk (show MapB evI evI (setObjAt W M o) M (addK n (b - a + 1) l) from hM3)
  have e1 : IntKind.i32.wrap ((b : Int) - (a : Int)) = ((b - a : Nat) : Int) := by rw [IntWalk.i32_in _ (by omega)]; omega
  have e2 : IntKind.i64.wrap ((b - a : Nat) : Int) = ((b - a : Nat) : Int) := IntWalk.i64_in _ (by omega)
  have e3 : IntKind.i64.wrap (((b - a : Nat) : Int) + 1) = ((b - a + 1 : Nat) : Int) := by rw [IntWalk.i64_in _ (by omega)]; omega
  generalize hvv : (at? n l).getD 0 = v0 at *
  rw [show ((v0 + (b - a + 1) : Nat) : Int) = (v0 : Int) + (((b - a : Nat) : Int) + 1) by omega] at hU
  clear hM hM3 hvv
  go_enter Try.func106, Try.ntmps106
  go_wp2
  go_returns
  exact ⟨⟨_, rfl⟩, o, rfl, HF.out⟩

structure CntStI (w0 : World) (M : Nat) (out : List (Nat × Nat × Nat)) (W : World) : Prop where
  bel : Below w0.heap.size w0 W
  le : w0.heap.size ≤ M
  cell : Blk W (M + 1) [.map (some M)] 134
  mp : MapB evI evI W M (cntL out)
theorem CntStI.below {w0 : World} {M : Nat} {out : List (Nat × Nat × Nat)} {W W' : World} (h : CntStI w0 M out W) (hb : Below W.heap.size W W') : CntStI w0 M out W' :=
  ⟨h.bel.trans (hb.mono h.bel.size), h.le, (hb.block _ h.cell.lt).trans h.cell, h.mp.block (hb.block _ h.mp.lt)⟩
theorem cntI_ways {w0 : World} {v : Option Addr} {say : Nat → Nat} (hh : Han w0 v say) (M : Nat) :
    Ways say (evenB say) (fun out W => CntStI w0 M out W) 17 #[.pointer v] #[] 70 #[.pointer v] #[] 106 #[] #[.pointer (some ⟨M + 1, 0, none⟩)] where
  entS := call_enters Try.func17 (by kernel_rfl) (by kernel_rfl)
  entE := call_enters Try.func70 (by kernel_rfl) (by kernel_rfl)
  entD := call_enters Try.func106 (by kernel_rfl) (by kernel_rfl)
  even_ok := fun i hi h j hj => evenB_ok h j hj
  says := fun out W p h hp => by
    refine (look_calls W v say (hh.below h.bel) p).mono ?_
    rintro e w' ⟨rfl, n, rfl⟩
    refine ⟨?_, h.below (pw_below_drewN (Below.refl _ _) n)⟩
    unfold lookI
    rw [if_pos (by omega), Int.toNat_natCast]
  evens := fun out W i h hi => by
    refine (even_calls W v say (hh.below h.bel) i hi).mono ?_
    rintro e w' ⟨rfl, n, rfl⟩
    exact ⟨rfl, h.below (pw_below_drewN (Below.refl _ _) n)⟩
  does := fun out W a b h hab hb ht => by
    refine (cntI_calls W (M + 1) M (cntL out) a b (say a) hab hb (h.cell.cell 0) h.mp (by rw [at_cntL]; have := manyK_le (say a) ht; omega)).mono ?_
    rintro e w' ⟨he, o, rfl, hm⟩
    exact ⟨he, below_setObj h.bel h.le o, h.le, (setObj_other _ (by omega) o).trans h.cell, by rw [cntL_snoc]; exact hm⟩

def CountsPostI (w : World) (say : Nat → Nat) (e : Ending) (w' : World) : Prop :=
  Below w.heap.size w w' ∧ ∃ M rs, e = .returned (.map (some M)) ∧ w.heap.size ≤ M ∧ Til say 1114112 0 rs ∧ MapB evI evI w' M (cntL rs)
set_option maxRecDepth 100000 in
set_option maxHeartbeats 1600000 in
theorem countsI_calls (w : World) (v : Option Addr) (say : Nat → Nat) (hh : Han w v say) :
    Calls Try.prog 87 #[.func (.func 17) #[.pointer v] #[], .func (.func 70) #[.pointer v] #[]] w (CountsPostI w say) := by
  have hmf : ∀ (fn : Fn) (first cap : Array Value) (w : World), (Instr.makeFunc fn first cap).run Try.prog w = .ok (.func fn first cap) w := fun _ _ _ _ => rfl
  have h0 : CntStI w w.heap.size [] ((w.alloc (.map #[] 0)).alloc (.cells #[.map (some w.heap.size)] 134)) := by
    have k1 := blk_new (w.alloc (.map #[] 0)) [.map (some w.heap.size)] 134
    rw [alloc_size] at k1
    exact ⟨below_alloc (below_alloc (Below.refl _ _) _) _, Nat.le_refl _, k1, (mapB_new w evI evI).block (Below.heap_alloc _ _ _ (by rw [alloc_size]; omega))⟩
  have HS := Aside0.mk (stretches_calls (cntI_ways hh w.heap.size) _ h0)
  have hmm : (Instr.makeMap 134 none).run Try.prog w = .ok (.map (some w.heap.size)) (w.alloc (.map #[] 0)) := run_makeMap _ _
  clear hh h0
  go_enter Try.func87, Try.ntmps87
  go_wp2_with fail
  refine HS.out.mono ?_
  rintro e w1 ⟨⟨x, rfl⟩, rs, ht, h⟩
  have hcell := h.cell.cell 0
  have HF := Aside0.mk (show CountsPostI w say (.returned (.map (some w.heap.size))) w1 from ⟨h.bel, _, rs, rfl, h.le, ht, h.mp⟩)
  clear ht h
  go_wp2
  go_returns
  exact HF.out
end Go.Proofs.Ytajmbafljncjcaa.Stage
