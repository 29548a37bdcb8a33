/- Triples are compared: cmp.Compare, cmp.Or, Pairs' second function. -/
import Derived.Test.YtajmbafljncjcaaPStageOverx0
import Derived.Test.YtajmbafljncjcaaStE
import Derived.Shelf.SlSortCmp.NoneTotal
import Derived.StillTailTactics
namespace Go.Proofs.Ytajmbafljncjcaa.PStageOver
open Go.RowKit Go.Proofs.YtajmbafljncjcaaW.PrintWords Go.Proofs.YtajmbafljncjcaaW.PrintLast Go.Proofs.YtajmbafljncjcaaW.PrintMore Go.Proofs.Ytajmbafljncjcaa.Stage Go.Proofs.Ytajmbafljncjcaa.Mp Go.Sort
set_option linter.unusedVariables false
set_option linter.unusedSimpArgs false

theorem nanI_calls (W : World) (a : Int) : Calls Try.prog 105 #[.int .i64 a] W fun e w' => e = .returned (.bool false) ∧ w' = W := by
  go_enter Try.func105, Try.ntmps105
  go_wp2_with fail
  go_ret
  exact ⟨by simp, rfl⟩
def cmpI (a b : Int) : Int := if a < b then -1 else if b < a then 1 else 0
set_option maxRecDepth 100000 in
theorem cmpI_calls (W : World) (a b : Int) : Calls Try.prog 83 #[.int .i64 a, .int .i64 b] W fun e w' => e = .returned (.int .i64 (cmpI a b)) ∧ w' = W := by
  have HN := Aside0.mk (fun (W : World) (x : Int) => nanI_calls W x)
  have h3 : (a < b ∧ cmpI a b = -1) ∨ (¬ a < b ∧ a > b ∧ cmpI a b = 1) ∨ (¬ a < b ∧ ¬ a > b ∧ cmpI a b = 0) := by
    unfold cmpI
    by_cases h1 : a < b
    · exact .inl ⟨h1, if_pos h1⟩
    · by_cases h2 : b < a
      · exact .inr (.inl ⟨h1, h2, by rw [if_neg h1, if_pos h2]⟩)
      · exact .inr (.inr ⟨h1, h2, by rw [if_neg h1, if_neg h2]⟩)
  rcases h3 with ⟨h1, e⟩ | ⟨h1, h2, e⟩ | ⟨h1, h2, e⟩
  all_goals
    rw [e]
    go_enter Try.func83, Try.ntmps83
    go_wp2_with fail
    refine (HN.out W a).mono ?_
    rintro e w1 ⟨rfl, rfl⟩
    go_wp2_with fail
    refine (HN.out w1 b).mono ?_
    rintro e w2 ⟨rfl, rfl⟩
    go_wp2_with fail
    go_ret
    exact ⟨rfl, rfl⟩
def orI (a b : Int) : Int := if a = 0 then b else a
set_option maxRecDepth 100000 in
set_option maxHeartbeats 1000000 in
theorem or_calls (W : World) (g c : Nat) (a b : Int) (h0 : W.cell? ⟨g, 0, none⟩ = some (.int .i64 a)) (h1 : W.cell? ⟨g, 1, none⟩ = some (.int .i64 b)) :
    Calls Try.prog 82 #[.slice (some ⟨g, 0, none⟩) 2 c] W fun e w' => e = .returned (.int .i64 (orI a b)) ∧ w' = W := by
  go_enter Try.func82, Try.ntmps82
  go_wp2
  go_loopg [8] 3 (fun k v8 wr => ∃ i : Nat, i ≤ 2 ∧ 3 - i ≤ k ∧ v8 = .int .i64 (i : Int) ∧ (i = 0 ∨ (i = 1 ∧ a = 0) ∨ (i = 2 ∧ a = 0 ∧ b = 0)) ∧ wr = W)
  case atStart => exact ⟨0, by omega, by omega, rfl, .inl rfl, rfl⟩
  case round =>
    obtain ⟨i, hi, hk, rfl, hc, rfl⟩ := hrel
    rcases hc with rfl | ⟨rfl, ha⟩ | ⟨rfl, ha, hb⟩
    · by_cases hz : a = 0
      · subst hz
        go_wp2
        go_roundg (gk - 1)
        case measure => omega
        case rel => exact ⟨1, by omega, by omega, by go_num, .inr (.inl ⟨rfl, by first | trivial | rfl⟩), rfl⟩
      · go_wp2
        go_ret
        exact ⟨by rw [orI, if_neg hz]; rfl, rfl⟩
    · by_cases hz : b = 0
      · subst hz
        go_wp2
        go_roundg (gk - 1)
        case measure => omega
        case rel => exact ⟨2, by omega, by omega, by go_num, .inr (.inr ⟨rfl, by first | exact ha | trivial, by first | trivial | rfl⟩), rfl⟩
      · go_wp2
        go_ret
        exact ⟨by rw [orI, if_pos ha]; rfl, rfl⟩
    · go_wp2
      go_ret
      exact ⟨by rw [orI, if_pos ha, hb]; rfl, rfl⟩

def encT (x : S30) : List Value := [.int .i64 x.f0, .int .i64 x.f1, .int .i64 x.f2]
def cmpT (x y : S30) : Int := orI (cmpI x.f0 y.f0) (cmpI x.f1 y.f1)
theorem lt_cmpT (x y : S30) : ltOf cmpT x y = decide (x.f0 < y.f0 ∨ (x.f0 = y.f0 ∧ x.f1 < y.f1)) := by
  unfold ltOf cmpT orI cmpI
  rw [Bool.eq_iff_iff, decide_eq_true_eq, decide_eq_true_eq]
  split <;> split <;> (try split) <;> omega
theorem swo_cmpT : SWO (ltOf cmpT) where
  irrefl x := by rw [lt_cmpT]; simp
  trans x y z h1 h2 := by rw [lt_cmpT, decide_eq_true_eq] at *; omega
  ntrans x y z h1 h2 := by rw [lt_cmpT, decide_eq_false_iff_not] at *; omega

theorem two_cells (W2 : World) (u v : Int) : (W2.alloc (.cells #[.int .i64 u, .int .i64 v] 3)).drew.cell? ⟨W2.heap.size, 0, none⟩ = some (.int .i64 u) ∧ (W2.alloc (.cells #[.int .i64 u, .int .i64 v] 3)).drew.cell? ⟨W2.heap.size, 1, none⟩ = some (.int .i64 v) :=
  ⟨(blk_new W2 [.int .i64 u, .int .i64 v] 3).cell 0, (blk_new W2 [.int .i64 u, .int .i64 v] 3).cell 1⟩
set_option maxRecDepth 100000 in
set_option maxHeartbeats 1000000 in
theorem closure_pairs (x y : S30) (W : World) : Calls Try.prog 81 #[.agg #[.int .i64 x.f0, .int .i64 x.f1, .int .i64 x.f2], .agg #[.int .i64 y.f0, .int .i64 y.f1, .int .i64 y.f2]] W fun e w' => e = .returned (.int .i64 (cmpT x y)) ∧ ∃ q os', w' = grow (W.drewN q) os' := by
  have HC := Aside0.mk (fun (W : World) (a b : Int) => cmpI_calls W a b)
  have HO := Aside0.mk (fun (W : World) (g c : Nat) (a b : Int) (h0 : W.cell? ⟨g, 0, none⟩ = some (.int .i64 a)) (h1 : W.cell? ⟨g, 1, none⟩ = some (.int .i64 b)) => or_calls W g c a b h0 h1)
  have hT : cmpT x y = orI (cmpI x.f0 y.f0) (cmpI x.f1 y.f1) := rfl
  rw [hT]
  clear hT
  generalize x.f0 = a0 at *
  generalize x.f1 = a1 at *
  generalize x.f2 = a2 at *
  generalize y.f0 = b0 at *
  generalize y.f1 = b1 at *
  generalize y.f2 = b2 at *
  have x0 : ((W.alloc (.cells #[.int .i64 a0, .int .i64 a1, .int .i64 a2] 81)).alloc (.cells #[.int .i64 b0, .int .i64 b1, .int .i64 b2] 81)).cell? ⟨W.heap.size, 0, none⟩ = some (.int .i64 a0) := ((blk_new W [.int .i64 a0, .int .i64 a1, .int .i64 a2] 81).alloc _).cell 0
  have x1 : ((W.alloc (.cells #[.int .i64 a0, .int .i64 a1, .int .i64 a2] 81)).alloc (.cells #[.int .i64 b0, .int .i64 b1, .int .i64 b2] 81)).cell? ⟨W.heap.size, 1, none⟩ = some (.int .i64 a1) := ((blk_new W [.int .i64 a0, .int .i64 a1, .int .i64 a2] 81).alloc _).cell 1
  have y0 : ((W.alloc (.cells #[.int .i64 a0, .int .i64 a1, .int .i64 a2] 81)).alloc (.cells #[.int .i64 b0, .int .i64 b1, .int .i64 b2] 81)).cell? ⟨(W.alloc (.cells #[.int .i64 a0, .int .i64 a1, .int .i64 a2] 81)).heap.size, 0, none⟩ = some (.int .i64 b0) := (blk_new _ [.int .i64 b0, .int .i64 b1, .int .i64 b2] 81).cell 0
  have y1 : ((W.alloc (.cells #[.int .i64 a0, .int .i64 a1, .int .i64 a2] 81)).alloc (.cells #[.int .i64 b0, .int .i64 b1, .int .i64 b2] 81)).cell? ⟨(W.alloc (.cells #[.int .i64 a0, .int .i64 a1, .int .i64 a2] 81)).heap.size, 1, none⟩ = some (.int .i64 b1) := (blk_new _ [.int .i64 b0, .int .i64 b1, .int .i64 b2] 81).cell 1
  rw [alloc_size] at y0 y1
  go_enter Try.func81, Try.ntmps81
  go_wp2
  generalize hW2 : (W.alloc (.cells #[.int .i64 a0, .int .i64 a1, .int .i64 a2] 81)).alloc (.cells #[.int .i64 b0, .int .i64 b1, .int .i64 b2] 81) = W2 at *
  have HOO := Aside0.mk (HO.out (W2.alloc (.cells #[.int .i64 (cmpI a0 b0), .int .i64 (cmpI a1 b1)] 3)).drew W2.heap.size 2 (cmpI a0 b0) (cmpI a1 b1) (two_cells W2 _ _).1 (two_cells W2 _ _).2)
  refine wp_region_still_tail 10 (by kernel_rfl) (by kernel_rfl) ?_
  simp only [List.take_succ_cons, List.take_zero, List.drop_succ_cons, List.drop_zero]
  still_step
  still_step
  still_step
  still_step
  still_call (HC.out _ _ _)
  still_step
  still_step
  still_step
  still_step
  still_call (HC.out _ _ _)
  refine wpStill_nil ?_
  change wpList _ _ _ _ _ W2.drew
  go_wp2_with fail
  refine HOO.out.mono ?_
  rintro e w' ⟨rfl, rfl⟩
  go_wp2
  go_ret
  refine ⟨rfl, 1, #[.cells #[.int .i64 a0, .int .i64 a1, .int .i64 a2] 81, .cells #[.int .i64 b0, .int .i64 b1, .int .i64 b2] 81, .cells #[.int .i64 (cmpI a0 b0), .int .i64 (cmpI a1 b1)] 3], ?_⟩
  rw [← hW2, alloc_eq_grow, alloc_eq_grow, alloc_eq_grow, grow_grow, grow_grow]
  rfl

end Go.Proofs.Ytajmbafljncjcaa.PStageOver
