/- Pairs: of how many code points two tables say each two numbers. -/
import Derived.Test.YtajmbafljncjcaaCntC
import Derived.Test.YtajmbafljncjcaaStrV
import Derived.StillTailTactics
namespace Go.Proofs.Ytajmbafljncjcaa.Stage
open Go.RowKit Go.Proofs.YtajmbafljncjcaaW.PrintWords Go.Proofs.YtajmbafljncjcaaW.PrintLast Go.Proofs.YtajmbafljncjcaaW.PrintMore Go.Proofs.Ytajmbafljncjcaa.Mp
set_option linter.unusedVariables false
set_option linter.unusedSimpArgs false

def pairSay (sa sb : Nat → Nat) (p : Nat) : Nat := sa p * 65536 + sb p
theorem look_q (w : World) (v : Option Addr) (say : Nat → Nat) (hh : Han w v say) (p n : Nat) (hp : p < 1114112) (hn : say p = n) (W : World) (hW : Below w.heap.size w W) : Calls Try.prog 17 #[.pointer v, .int .i32 (p : Int)] W fun e w' => e = .returned (.int .i64 (n : Int)) ∧ ∃ n, w' = W.drewN n := by
  have := look_calls W v say (hh.below hW) p
  unfold LookPost at this
  rw [show lookI say (p : Int) = (n : Int) by rw [lookI_nat say hp, hn]] at this
  exact this

theorem results_cellR {P : Program} {fn : Func} {p : Tmp} {ty : TypeId} {tmps : Array Value} {w : World} {g : Nat} {d : TypeDesc} {cs : List Value} (h : fn.results = #[.cell p ty]) (hp : tmps.getD p undef = .pointer (some ⟨g, 0, none⟩)) (hc : w.rangeAt g 0 cs)
    (hu : P.underlying ty = some d) (hd : d.isRow = true) (hi : (P.info? ty).map (·.size) = some cs.length) : (results fn tmps).run P w = .ok (.agg cs.toArray) w := by
  unfold results
  rw [show fn.results = [ResultVar.cell p ty].toArray from h, List.mapM_toArray]
  have hp' : tmps[p]?.getD undef = .pointer (some ⟨g, 0, none⟩) := by rw [← hp]; simp [Array.getD_eq_getD_getElem?]
  have hl := run_loadVar_mid w g 0 ty cs d hc hu hd hi
  simp [List.mapM_cons, hp', asAddr, Sem.run_bind, Result.andThen, hl]

set_option maxRecDepth 100000 in
set_option maxHeartbeats 1600000 in
/-- Pairs' first function: what both say of a code point. -/
theorem prs1_calls (W : World) (Ba Bb : Nat) (va vb : Option Addr) (sa sb : Nat → Nat) (ha : Han W va sa) (hb : Han W vb sb) (p : Nat) (hp : p < 1114112) (b1 : sa p ≤ 65535) (b2 : sb p ≤ 65535) (hA : W.cell? ⟨Ba, 0, none⟩ = some (.pointer va)) (hB : W.cell? ⟨Bb, 0, none⟩ = some (.pointer vb)) :
    Calls Try.prog 79 #[.int .i32 (p : Int), .pointer (some ⟨Ba, 0, none⟩), .pointer (some ⟨Bb, 0, none⟩)] W fun e w' => e = .returned (.agg #[.int .i64 (hiZ (pairSay sa sb p)), .int .i64 (loZ (pairSay sa sb p))]) ∧ Below W.heap.size W w' := by
  obtain ⟨n, hn⟩ : ∃ n, sa p = n := ⟨_, rfl⟩
  obtain ⟨m, hm⟩ : ∃ m, sb p = m := ⟨_, rfl⟩
  have e1 : hiZ (pairSay sa sb p) = (n : Int) := by unfold hiZ pairSay; rw [hn, hm]; omega
  have e2 : loZ (pairSay sa sb p) = (m : Int) := by unfold loZ pairSay; rw [hn, hm]; omega
  rw [e1, e2]
  have hA1 : (W.alloc (.cells #[.int .i64 0, .int .i64 0] 126)).cell? ⟨Ba, 0, none⟩ = some (.pointer va) := (World.cell?_of_block (Below.heap_alloc W _ Ba (World.block_lt_of_cell? _ _ hA))).trans hA
  have hB1 : (W.alloc (.cells #[.int .i64 0, .int .i64 0] 126)).cell? ⟨Bb, 0, none⟩ = some (.pointer vb) := (World.cell?_of_block (Below.heap_alloc W _ Bb (World.block_lt_of_cell? _ _ hB))).trans hB
  have hk := blk_new W [.int .i64 0, .int .i64 0] 126
  have hbw := below_alloc (Below.refl W.heap.size W) (.cells #[.int .i64 0, .int .i64 0] 126)
  have HBW := Aside0.mk hbw
  have HK := Aside0.mk hk
  have HE := Aside0.mk (look_q W va sa ha p n hp hn)
  have HG := Aside0.mk (look_q W vb sb hb p m hp hm)
  clear ha hb e1 e2 hn hm hA hB hk hbw
  go_enter Try.func79, Try.ntmps79
  go_wp2
  generalize hW1 : W.alloc (.cells #[.int .i64 0, .int .i64 0] 126) = W1 at *
  have x0 := HK.out.cell 0
  have x1 := HK.out.cell 1
  have f0 := blk_frozen HK.out 0
  have f1 := blk_frozen HK.out 1
  rw [List.getElem?_cons_zero] at x0
  rw [List.getElem?_cons_succ, List.getElem?_cons_zero] at x1
  have hsz : W.heap.size < W1.heap.size := HK.out.lt
  generalize hX : W.heap.size = X at x0 x1 f0 f1 HK ⊢
  have HB1 := Aside0.mk (fun k => pw_below_drewN HBW.out k)
  go_region_with (first | (go_at_call 17; first | ((with_reducible refine (HE.out _ ?hbe).mono ?_); (case hbe => first | exact HB1.out 1 | exact HB1.out _ | exact pw_below_drewN (HB1.out 1) _); rintro e w'' ⟨rfl, kk, rfl⟩) | ((with_reducible refine (HG.out _ ?hbe).mono ?_); (case hbe => first | exact HB1.out 1 | exact HB1.out _ | exact pw_below_drewN (HB1.out 1) _); rintro e w'' ⟨rfl, kk, rfl⟩)))
  all_goals
    go_wp2
    refine bodyPost_ret (results_cellR (g := X) (cs := [.int .i64 (n : Int), .int .i64 (m : Int)]) rfl rfl ?_ Try.underlying126 rfl (by kernel_rfl)) rfl ?_
    · intro j v hv
      rw [Nat.zero_add]
      exact ((((HK.out.drewN _).set 0 (.int .i64 (n : Int))).set 1 (.int .i64 (m : Int))).cell j).trans hv
    · exact ⟨rfl, below_set (below_set (pw_below_drewN HBW.out _) (by omega)) (by omega)⟩
end Go.Proofs.Ytajmbafljncjcaa.Stage
