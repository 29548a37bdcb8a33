-- Written by a program of this session, over the words of the kit's print.
import Derived.Test.YtkpdccegamcppaaPSpanx0
namespace Go.Proofs.Ytkpdccegamcppaa.PSpan
open Go.RowKit Go.Proofs.YtkpdccegamcppaaW.PrintWords Go.Proofs.YtkpdccegamcppaaW.PrintLast Go.Proofs.YtkpdccegamcppaaW.PrintMore
attribute [local go_sem] max2_int min2_int max_two min_two max_three min_three max_four min_four   -- for this text's walks alone
set_option linter.unusedVariables false
set_option linter.unusedSimpArgs false

/-! ### span_crossed: function 49 -/
mutual
def span_crossed.l0 : Nat → List (S50) → List (S50) → List (S50) → Option ((List (S50)))
  | 0, _, _, _ => none
  | k + 1, x0, x1, x5 => if (x0.length : Int) > 0 then (span_crossed.j1 k x0 x1 x5 (decide ((x1.length : Int) > 0))) else (span_crossed.j1 k x0 x1 x5 false)
def span_crossed.j1 : Nat → List (S50) → List (S50) → List (S50) → Bool → Option ((List (S50)))
  | 0, _, _, _, _ => none
  | k + 1, x0, x1, x5, x15 => if x15 = true then (if 0 < (x0.length : Int) then (if 0 < (x1.length : Int) then (if (mx ((rd_T50 x0 0).f0) ((rd_T50 x1 0).f0)) ≤ (mn ((rd_T50 x0 0).f1) ((rd_T50 x1 0).f1)) then (if x5.length < 17592186044416 then ((some (x5 ++ [(⟨mx ((rd_T50 x0 0).f0) ((rd_T50 x1 0).f0), mn ((rd_T50 x0 0).f1) ((rd_T50 x1 0).f1)⟩ : S50)] : List (S50))).bind fun y197 => (if ((rd_T50 x0 0).f1) < ((rd_T50 x1 0).f1) then (if 1 ≤ (x0.length : Int) then (span_crossed.l0 k (x0.drop 1) x1 y197) else (none)) else (if 1 ≤ (x1.length : Int) then (span_crossed.l0 k x0 (x1.drop 1) y197) else (none)))) else (none)) else (if ((rd_T50 x0 0).f1) < ((rd_T50 x1 0).f1) then (if 1 ≤ (x0.length : Int) then (span_crossed.l0 k (x0.drop 1) x1 x5) else (none)) else (if 1 ≤ (x1.length : Int) then (span_crossed.l0 k x0 (x1.drop 1) x5) else (none)))) else (none)) else (none)) else (some x5)
end
def span_crossed.f (k : Nat) (l0 : List (S50)) (l1 : List (S50)) : Option ((List (S50))) := span_crossed.l0 k l0 l1 ([] : List (S50))
theorem span_crossed.mono_l : ∀ k, (∀ y0 y1 y2, LeO (span_crossed.l0 k y0 y1 y2) (span_crossed.l0 (k + 1) y0 y1 y2)) ∧ (∀ y0 y1 y2 y3, LeO (span_crossed.j1 k y0 y1 y2 y3) (span_crossed.j1 (k + 1) y0 y1 y2 y3))
  | 0 => ⟨fun _ _ _ r h => by simp [span_crossed.l0] at h, fun _ _ _ _ r h => by simp [span_crossed.j1] at h⟩
  | k + 1 => by
    obtain ⟨ih0, ih1⟩ := span_crossed.mono_l k
    refine ⟨?_, ?_⟩
    · intro y0 y1 y2
      unfold span_crossed.l0
      repeat' first
      | (with_reducible exact ih0 _ _ _)
      | (with_reducible exact ih1 _ _ _ _)
      | (with_reducible exact LeO.refl _)
      | (with_reducible exact LeO.none _)
      | (with_reducible refine LeO.ite ?_ ?_)
      | (with_reducible refine LeO.bind ?_ (fun _ => ?_))
      | exact ih0 _ _ _
      | exact ih1 _ _ _ _
      | exact LeO.none _
      | refine LeO.ite ?_ ?_
      | refine LeO.bind ?_ (fun _ => ?_)
    · intro y0 y1 y2 y3
      unfold span_crossed.j1
      repeat' first
      | (with_reducible exact ih0 _ _ _)
      | (with_reducible exact ih1 _ _ _ _)
      | (with_reducible exact LeO.refl _)
      | (with_reducible exact LeO.none _)
      | (with_reducible refine LeO.ite ?_ ?_)
      | (with_reducible refine LeO.bind ?_ (fun _ => ?_))
      | exact ih0 _ _ _
      | exact ih1 _ _ _ _
      | exact LeO.none _
      | refine LeO.ite ?_ ?_
      | refine LeO.bind ?_ (fun _ => ?_)
theorem span_crossed.mono : ∀ a0 a1 k, LeO (span_crossed.f k a0 a1) (span_crossed.f (k + 1) a0 a1) := by
  intro a0 a1 k
  obtain ⟨ih0, ih1⟩ := span_crossed.mono_l k
  unfold span_crossed.f
  repeat' first
      | (with_reducible exact ih0 _ _ _)
      | (with_reducible exact ih1 _ _ _ _)
      | (with_reducible exact LeO.refl _)
      | (with_reducible exact LeO.none _)
      | (with_reducible refine LeO.ite ?_ ?_)
      | (with_reducible refine LeO.bind ?_ (fun _ => ?_))
      | exact ih0 _ _ _
      | exact ih1 _ _ _ _
      | exact LeO.none _
      | refine LeO.ite ?_ ?_
      | refine LeO.bind ?_ (fun _ => ?_)
set_option maxHeartbeats 8000000 in
set_option maxRecDepth 100000 in
theorem span_crossed.calls (k : Nat) (P0_ : Nat → Prop) (A0 : Option Addr) (c0 : Nat) (l0 : List (S50)) (P1_ : Nat → Prop) (A1 : Option Addr) (c1 : Nat) (l1 : List (S50)) (r : List (S50)) (w : World) (hs0 : Kd.V k50 50 w w.heap.size (fun k_ => P0_ k_) (.slice A0 l0.length c0) l0) (hs1 : Kd.V k50 50 w w.heap.size (fun k_ => P1_ k_) (.slice A1 l1.length c1) l1) (h : span_crossed.f k l0 l1 = some r) :
    Calls Try.prog 49 #[.slice A0 l0.length c0, .slice A1 l1.length c1] w fun e w' => ∃ v0_ : Value, e = .returned (v0_) ∧ Kd.R k50 50 w' w.heap.size (fun k_ => (w.heap.size ≤ k_)) v0_ r ∧ Below w.heap.size w w' := by
  have hu50 := Try.underlying50
  have HO0 := Aside0.mk (show Kd.V k50 50 w w.heap.size (fun k_ => ((P0_ k_ ∨ P1_ k_) ∨ w.heap.size ≤ k_)) (.slice A0 l0.length c0) l0 from Kd.V_mono hs0 (fun k_ hk => .inl (.inl hk)))
  have HO1 := Aside0.mk (show Kd.V k50 50 w w.heap.size (fun k_ => ((P0_ k_ ∨ P1_ k_) ∨ w.heap.size ≤ k_)) (.slice A1 l1.length c1) l1 from Kd.V_mono hs1 (fun k_ hk => .inl (.inr hk)))
  have HB := Aside0.mk (Below.refl w.heap.size w)
  have H : (span_crossed.l0 k l0 l1 ([] : List (S50))) = some r := h
  clear h
  have H' := Aside0.mk H
  clear H
  go_enter Try.func49, Try.ntmps49
  go_wp2
  repeat (go_quiet (fail); try go_wp2)
  go_loopg [0, 1, 5] k (fun kq v0 v1 v5 w' => ∃ (x0_1 : List (S50)) (x1_1 : List (S50)) (x5_1 : List (S50)), Aside0 (span_crossed.l0 kq x0_1 x1_1 x5_1 = some r) ∧ Aside0 (kq ≤ k) ∧ Aside0 (Kd.V k50 50 w' w.heap.size (fun k_ => ((P0_ k_ ∨ P1_ k_) ∨ w.heap.size ≤ k_) ∧ some k_ ≠ (v5 : Value).ownBlock) v0 x0_1) ∧ Aside0 (Kd.V k50 50 w' w.heap.size (fun k_ => ((P0_ k_ ∨ P1_ k_) ∨ w.heap.size ≤ k_) ∧ some k_ ≠ (v5 : Value).ownBlock) v1 x1_1) ∧ Aside0 (Kd.R k50 50 w' w.heap.size (fun k_ => (w.heap.size ≤ k_)) v5 x5_1) ∧ Aside0 (Below w.heap.size w w'))
  case atStart => exact ⟨(l0), (l1), (([] : List (S50))), H', ⟨Nat.le_refl _⟩, ⟨by (with_reducible repeat (first | apply Kd.V_alloc | apply Kd.V_drewN | apply Kd.V_drew)); exact Kd.V_mono HO0.out (fun _ hk => ⟨hk, (by simp [Value.ownBlock])⟩)⟩, ⟨by (with_reducible repeat (first | apply Kd.V_alloc | apply Kd.V_drewN | apply Kd.V_drew)); exact Kd.V_mono HO1.out (fun _ hk => ⟨hk, (by simp [Value.ownBlock])⟩)⟩, ⟨by first | exact Kd.R_nil _ _ _ _ _ | exact Kd.N_nil _ _ _ _ _ | exact Kd.V_nil _ _ _ _ _ | exact Kd.Q_nil _ _ _ _ _ | exact Kd.S_nil _ _ _ _ _⟩, ⟨by repeat (first | (with_reducible first | exact HB.out | apply below_alloc | apply pw_below_drewN | apply below_drew1) | exact HB.out)⟩⟩
  case round =>
    clear H'
    try clear c1
    try clear p2
    obtain ⟨x0_1, x1_1, x5_1, HA, HK1, HO_0, HO_1, HO_5, HB⟩ := hrel
    cases gk with
    | zero => exact absurd HA.out (by simp [span_crossed.l0])
    | succ k1 =>
      have H := HA.out
      clear HA
      simp only [span_crossed.l0] at H
      have HC3 := Aside0.mk H
      clear H
      go_upto_region 2 with (fail)
      repeat (go_quiet (fail); go_upto_region 2 with (fail))
      go_cut [15] (fun v15 wc => ∃ (kq : Nat) (x15_2 : Bool), v15 = .bool x15_2 ∧ Aside0 (span_crossed.j1 kq x0_1 x1_1 x5_1 x15_2 = some r) ∧ Aside0 (kq ≤ k1) ∧ Aside0 (Kd.V k50 50 wc w.heap.size (fun k_ => ((P0_ k_ ∨ P1_ k_) ∨ w.heap.size ≤ k_) ∧ some k_ ≠ (u5 : Value).ownBlock) u0 x0_1) ∧ Aside0 (Kd.V k50 50 wc w.heap.size (fun k_ => ((P0_ k_ ∨ P1_ k_) ∨ w.heap.size ≤ k_) ∧ some k_ ≠ (u5 : Value).ownBlock) u1 x1_1) ∧ Aside0 (Kd.R k50 50 wc w.heap.size (fun k_ => (w.heap.size ≤ k_)) u5 x5_1) ∧ Aside0 (Below w.heap.size w wc))
      case first =>
        have H := HC3.out
        clear HC3
        by_cases c4 : (x0_1.length : Int) > 0
        · rw [if_pos c4] at H
          have c4b0 : decide (0 < (x0_1.length : Int)) = true := decide_eq_true c4
          have c4b1 : decide (0 < x0_1.length) = true := decide_eq_true (by omega)
          clear c4
          (first | rw [c4b0] | (simp only [i64_w, i32_w]; rw [c4b0]) | skip)
          have H' := Aside0.mk H
          clear H
          obtain ⟨Ao5, co5, eo5⟩ := Kd.V_slice HO_0.out
          subst eo5
          obtain ⟨Ao6, co6, eo6⟩ := Kd.V_slice HO_1.out
          subst eo6
          go_wp2
          repeat (go_quiet (fail); try go_wp2)
          go_meet
          case rel => exact ⟨_, (decide ((x1_1.length : Int) > 0)), (by first | rfl | (simp; done) | (simp [*]; done)), H', ⟨by have := HK1.out; first | omega | exact Nat.le_refl _⟩, ⟨by (with_reducible repeat (first | apply Kd.V_alloc | apply Kd.V_drewN | apply Kd.V_drew)); exact HO_0.out⟩, ⟨by (with_reducible repeat (first | apply Kd.V_alloc | apply Kd.V_drewN | apply Kd.V_drew)); exact HO_1.out⟩, ⟨by (with_reducible repeat (first | apply Kd.R_alloc | apply Kd.R_drewN | apply Kd.R_drew)); exact HO_5.out⟩, ⟨by repeat (first | (with_reducible first | exact HB.out | apply below_alloc | apply pw_below_drewN | apply below_drew1) | exact HB.out)⟩⟩
        · rw [if_neg c4] at H
          have c4b0 : decide (0 < (x0_1.length : Int)) = false := decide_eq_false c4
          have c4b1 : decide (0 < x0_1.length) = false := decide_eq_false (by omega)
          clear c4
          (first | rw [c4b0] | (simp only [i64_w, i32_w]; rw [c4b0]) | skip)
          have H' := Aside0.mk H
          clear H
          obtain ⟨Ao7, co7, eo7⟩ := Kd.V_slice HO_0.out
          subst eo7
          go_wp2
          repeat (go_quiet (fail); try go_wp2)
          go_meet
          case rel => exact ⟨_, (false), (by first | rfl | (simp; done) | (simp [*]; done)), H', ⟨by have := HK1.out; first | omega | exact Nat.le_refl _⟩, ⟨by (with_reducible repeat (first | apply Kd.V_alloc | apply Kd.V_drewN | apply Kd.V_drew)); exact HO_0.out⟩, ⟨by (with_reducible repeat (first | apply Kd.V_alloc | apply Kd.V_drewN | apply Kd.V_drew)); exact HO_1.out⟩, ⟨by (with_reducible repeat (first | apply Kd.R_alloc | apply Kd.R_drewN | apply Kd.R_drew)); exact HO_5.out⟩, ⟨by repeat (first | (with_reducible first | exact HB.out | apply below_alloc | apply pw_below_drewN | apply below_drew1) | exact HB.out)⟩⟩
      case rest =>
        clear HC3
        try clear c1
        try clear p2
        try clear c4
        try clear c4b0
        try clear c4b1
        try clear p2
        obtain ⟨kq, x15_2, rfl, HA, HJ2, HO_0, HO_1, HO_5, HB⟩ := hcut
        cases kq with
        | zero => exact absurd HA.out (by simp [span_crossed.j1])
        | succ kj2 =>
          have H := HA.out
          clear HA
          simp only [span_crossed.j1] at H
          by_cases c8 : x15_2 = true
          · subst c8
            have H1 : (if 0 < (x0_1.length : Int) then (if 0 < (x1_1.length : Int) then (if (mx ((rd_T50 x0_1 0).f0) ((rd_T50 x1_1 0).f0)) ≤ (mn ((rd_T50 x0_1 0).f1) ((rd_T50 x1_1 0).f1)) then (if x5_1.length < 17592186044416 then ((some (x5_1 ++ [(⟨mx ((rd_T50 x0_1 0).f0) ((rd_T50 x1_1 0).f0), mn ((rd_T50 x0_1 0).f1) ((rd_T50 x1_1 0).f1)⟩ : S50)] : List (S50))).bind fun y197 => (if ((rd_T50 x0_1 0).f1) < ((rd_T50 x1_1 0).f1) then (if 1 ≤ (x0_1.length : Int) then (span_crossed.l0 kj2 (x0_1.drop 1) x1_1 y197) else (none)) else (if 1 ≤ (x1_1.length : Int) then (span_crossed.l0 kj2 x0_1 (x1_1.drop 1) y197) else (none)))) else (none)) else (if ((rd_T50 x0_1 0).f1) < ((rd_T50 x1_1 0).f1) then (if 1 ≤ (x0_1.length : Int) then (span_crossed.l0 kj2 (x0_1.drop 1) x1_1 x5_1) else (none)) else (if 1 ≤ (x1_1.length : Int) then (span_crossed.l0 kj2 x0_1 (x1_1.drop 1) x5_1) else (none)))) else (none)) else (none)) = some r := by rw [if_pos rfl] at H; exact H
            clear H
            have H := H1
            clear H1
            by_cases c9 : 0 < (x0_1.length : Int)
            · rw [if_pos c9] at H
              have c9b0 : decide (0 < (x0_1.length : Int)) = true := decide_eq_true c9
              have c9b1 : decide (0 < x0_1.length) = true := decide_eq_true (by omega)
              clear c9
              by_cases c10 : 0 < (x1_1.length : Int)
              · rw [if_pos c10] at H
                have c10b0 : decide (0 < (x1_1.length : Int)) = true := decide_eq_true c10
                have c10b1 : decide (0 < x1_1.length) = true := decide_eq_true (by omega)
                clear c10
                obtain ⟨ji11, hji11⟩ : ∃ j_ : Int, (mx ((rd_T50 x0_1 0).f0) ((rd_T50 x1_1 0).f0)) = j_ := ⟨_, rfl⟩
                replace H : (if (ji11) ≤ (mn ((rd_T50 x0_1 0).f1) ((rd_T50 x1_1 0).f1)) then (if x5_1.length < 17592186044416 then ((some (x5_1 ++ [(⟨ji11, mn ((rd_T50 x0_1 0).f1) ((rd_T50 x1_1 0).f1)⟩ : S50)] : List (S50))).bind fun y197 => (if ((rd_T50 x0_1 0).f1) < ((rd_T50 x1_1 0).f1) then (if 1 ≤ (x0_1.length : Int) then (span_crossed.l0 kj2 (x0_1.drop 1) x1_1 y197) else (none)) else (if 1 ≤ (x1_1.length : Int) then (span_crossed.l0 kj2 x0_1 (x1_1.drop 1) y197) else (none)))) else (none)) else (if ((rd_T50 x0_1 0).f1) < ((rd_T50 x1_1 0).f1) then (if 1 ≤ (x0_1.length : Int) then (span_crossed.l0 kj2 (x0_1.drop 1) x1_1 x5_1) else (none)) else (if 1 ≤ (x1_1.length : Int) then (span_crossed.l0 kj2 x0_1 (x1_1.drop 1) x5_1) else (none)))) = some r := by first | (rw [hji11] at H; exact H) | (simp only [hji11] at H ⊢; exact H)
                have hji11_ : (if ((rd_T50 x0_1 0).f0) < ((rd_T50 x1_1 0).f0) then ((rd_T50 x1_1 0).f0) else ((rd_T50 x0_1 0).f0)) = ji11 := hji11
                obtain ⟨ji12, hji12⟩ : ∃ j_ : Int, (mn ((rd_T50 x0_1 0).f1) ((rd_T50 x1_1 0).f1)) = j_ := ⟨_, rfl⟩
                replace H : (if (ji11) ≤ (ji12) then (if x5_1.length < 17592186044416 then ((some (x5_1 ++ [(⟨ji11, ji12⟩ : S50)] : List (S50))).bind fun y197 => (if ((rd_T50 x0_1 0).f1) < ((rd_T50 x1_1 0).f1) then (if 1 ≤ (x0_1.length : Int) then (span_crossed.l0 kj2 (x0_1.drop 1) x1_1 y197) else (none)) else (if 1 ≤ (x1_1.length : Int) then (span_crossed.l0 kj2 x0_1 (x1_1.drop 1) y197) else (none)))) else (none)) else (if ((rd_T50 x0_1 0).f1) < ((rd_T50 x1_1 0).f1) then (if 1 ≤ (x0_1.length : Int) then (span_crossed.l0 kj2 (x0_1.drop 1) x1_1 x5_1) else (none)) else (if 1 ≤ (x1_1.length : Int) then (span_crossed.l0 kj2 x0_1 (x1_1.drop 1) x5_1) else (none)))) = some r := by first | (rw [hji12] at H; exact H) | (simp only [hji12] at H ⊢; exact H)
                have hji12_ : (if ((rd_T50 x1_1 0).f1) < ((rd_T50 x0_1 0).f1) then ((rd_T50 x1_1 0).f1) else ((rd_T50 x0_1 0).f1)) = ji12 := hji12
                by_cases c13 : (ji11) ≤ (ji12)
                · rw [if_pos c13] at H
                  have c13b0 : decide ((ji11) ≤ (ji12)) = true := decide_eq_true c13
                  clear c13
                  by_cases c14 : x5_1.length < 17592186044416
                  · rw [if_pos c14] at H
                    have LMc14 := Aside0.mk c14
                    clear c14
                    obtain ⟨y197, hy197⟩ : ∃ y_ : List (S50), y_ = (x5_1 ++ [(⟨ji11, ji12⟩ : S50)]) := ⟨_, rfl⟩
                    replace H : (if ((rd_T50 x0_1 0).f1) < ((rd_T50 x1_1 0).f1) then (if 1 ≤ (x0_1.length : Int) then (span_crossed.l0 kj2 (x0_1.drop 1) x1_1 y197) else (none)) else (if 1 ≤ (x1_1.length : Int) then (span_crossed.l0 kj2 x0_1 (x1_1.drop 1) y197) else (none))) = some r := by first | (rw [hy197]; with_reducible exact H) | (have H2_ := (Option.bind_some _ _).symm.trans H; rw [hy197]; with_reducible exact H2_) | (have H2_ := (Option.bind_some _ _).symm.trans H; with_reducible exact H2_) | with_reducible exact H | (rw [hy197]; exact H) | exact H
                    have Ny197 := Aside0.mk hy197
                    clear hy197
                    by_cases c15 : ((rd_T50 x0_1 0).f1) < ((rd_T50 x1_1 0).f1)
                    · rw [if_pos c15] at H
                      have c15b0 : decide (((rd_T50 x0_1 0).f1) < ((rd_T50 x1_1 0).f1)) = true := decide_eq_true c15
                      clear c15
                      by_cases c16 : 1 ≤ (x0_1.length : Int)
                      · rw [if_pos c16] at H
                        have c16b0 := eq_true c16
                        have c16b1 : decide (1 ≤ (x0_1.length : Int)) = true := decide_eq_true c16
                        clear c16
                        obtain ⟨y202, hy202⟩ : ∃ y_ : List (S50), y_ = (x0_1.drop 1) := ⟨_, rfl⟩
                        replace H : (span_crossed.l0 kj2 y202 x1_1 y197) = some r := by first | (rw [hy202]; with_reducible exact H) | (have H2_ := (Option.bind_some _ _).symm.trans H; rw [hy202]; with_reducible exact H2_) | (have H2_ := (Option.bind_some _ _).symm.trans H; with_reducible exact H2_) | with_reducible exact H | (rw [hy202]; exact H) | exact H
                        have Ny202 := Aside0.mk hy202
                        clear hy202
                        have H' := Aside0.mk H
                        clear H
                        obtain ⟨Ao17, co17, eo17⟩ := Kd.V_slice HO_0.out
                        subst eo17
                        have p193 : 0 ≤ (0 : Int) := (by omega)
                        have q193 : 0 < (x0_1.length : Int) := of_decide_eq_true (by first | (with_reducible assumption) | assumption)
                        obtain ⟨ad193, e193, hx193_0, hx193_1⟩ := at_T50 (Kd.V_reads' HO_0.out).2.2 0 p193 q193
                        cases e193
                        have qi193 : (0 < x0_1.length) = True := eq_true (by omega)
                        (try rw [show ((0 : Int)).toNat = 0 from rfl] at hx193_0)
                        (try rw [show 0 * 2 = 0 from rfl] at hx193_0)
                        (try rw [Addr.add_zero'] at hx193_0)
                        (try rw [show ((0 : Int)).toNat = 0 from rfl] at hx193_1)
                        (try rw [show 0 * 2 = 0 from rfl] at hx193_1)
                        (try rw [Addr.add_zero'] at hx193_1)
                        replace p193 := eq_true p193
                        replace q193 := eq_true q193
                        obtain ⟨Ao18, co18, eo18⟩ := Kd.V_slice HO_1.out
                        subst eo18
                        have p194 : 0 ≤ (0 : Int) := (by omega)
                        have q194 : 0 < (x1_1.length : Int) := of_decide_eq_true (by first | (with_reducible assumption) | assumption)
                        obtain ⟨ad194, e194, hx194_0, hx194_1⟩ := at_T50 (Kd.V_reads' HO_1.out).2.2 0 p194 q194
                        cases e194
                        have qi194 : (0 < x1_1.length) = True := eq_true (by omega)
                        (try rw [show ((0 : Int)).toNat = 0 from rfl] at hx194_0)
                        (try rw [show 0 * 2 = 0 from rfl] at hx194_0)
                        (try rw [Addr.add_zero'] at hx194_0)
                        (try rw [show ((0 : Int)).toNat = 0 from rfl] at hx194_1)
                        (try rw [show 0 * 2 = 0 from rfl] at hx194_1)
                        (try rw [Addr.add_zero'] at hx194_1)
                        replace p194 := eq_true p194
                        replace q194 := eq_true q194
                        have p195 : 0 ≤ (0 : Int) := (by omega)
                        have q195 : 0 < (x0_1.length : Int) := of_decide_eq_true (by first | (with_reducible assumption) | assumption)
                        obtain ⟨ad195, e195, hx195_0, hx195_1⟩ := at_T50 (Kd.V_reads' HO_0.out).2.2 0 p195 q195
                        obtain rfl : ad193 = ad195 := (by injection e195)
                        have qi195 : (0 < x0_1.length) = True := eq_true (by omega)
                        (try rw [show ((0 : Int)).toNat = 0 from rfl] at hx195_0)
                        (try rw [show 0 * 2 = 0 from rfl] at hx195_0)
                        (try rw [Addr.add_zero'] at hx195_0)
                        (try rw [show ((0 : Int)).toNat = 0 from rfl] at hx195_1)
                        (try rw [show 0 * 2 = 0 from rfl] at hx195_1)
                        (try rw [Addr.add_zero'] at hx195_1)
                        replace p195 := eq_true p195
                        replace q195 := eq_true q195
                        have p196 : 0 ≤ (0 : Int) := (by omega)
                        have q196 : 0 < (x1_1.length : Int) := of_decide_eq_true (by first | (with_reducible assumption) | assumption)
                        obtain ⟨ad196, e196, hx196_0, hx196_1⟩ := at_T50 (Kd.V_reads' HO_1.out).2.2 0 p196 q196
                        obtain rfl : ad194 = ad196 := (by injection e196)
                        have qi196 : (0 < x1_1.length) = True := eq_true (by omega)
                        (try rw [show ((0 : Int)).toNat = 0 from rfl] at hx196_0)
                        (try rw [show 0 * 2 = 0 from rfl] at hx196_0)
                        (try rw [Addr.add_zero'] at hx196_0)
                        (try rw [show ((0 : Int)).toNat = 0 from rfl] at hx196_1)
                        (try rw [show 0 * 2 = 0 from rfl] at hx196_1)
                        (try rw [Addr.add_zero'] at hx196_1)
                        replace p196 := eq_true p196
                        replace q196 := eq_true q196
                        go_wp2_with (first | ((with_reducible refine gate_builtin (b := .append) (xs := #[.tmp 37, .tmp 41]) rfl ?_); (try (refine gate_guard (by rfl) ?_; dsimp only)); at_builtin; refine Kd.R_append k50 (w0 := w) w.heap.size rfl (.tmp 37) (.tmp 41) 22 50 (.agg #[(.int .i32 0), (.int .i32 0)]) 8 rfl Try.underlying22 info50 rfl (by decide) (by omega) u5 x5_1 (⟨ji11, ji12⟩ : S50) [.int .i32 ji11, .int .i32 ji12] (fun k_ => (w.heap.size ≤ k_)) (fun _ => False) rfl rfl ?aP (fun _ hk => hk.elim) ?aF ?aO ?aB ?aS ?aL ?_; (case aP => exact k50_mkM _ _ _ (⟨ji11, ji12⟩ : S50)); (case aB => exact (by repeat (first | (with_reducible first | exact HB.out | apply below_alloc | apply pw_below_drewN | apply below_drew1) | exact HB.out))); (case aF => exact (fun k_ hk => (Nat.le_trans (below_size (by repeat (first | (with_reducible first | exact HB.out | apply below_alloc | apply pw_below_drewN | apply below_drew1) | exact HB.out))) hk))); (case aO => exact (by (with_reducible repeat (first | apply Kd.R_alloc | apply Kd.R_drewN | apply Kd.R_drew)); exact HO_5.out)); (case aS => exact (below_size (by repeat (first | (with_reducible first | exact HB.out | apply below_alloc | apply pw_below_drewN | apply below_drew1) | exact HB.out)))); (case aL => have := LMc14.out; omega); intro v198 w19 ho hb hg hat; rw [← Ny197.out] at ho; have n0_ := Aside0.mk (Kd.V_afterv (ok := (fun k_ => ((P0_ k_ ∨ P1_ k_) ∨ w.heap.size ≤ k_))) (by (with_reducible repeat (first | apply Kd.V_alloc | apply Kd.V_drewN | apply Kd.V_drew)); exact HO_0.out) hg hat); have n1_ := Aside0.mk (Kd.V_afterv (ok := (fun k_ => ((P0_ k_ ∨ P1_ k_) ∨ w.heap.size ≤ k_))) (by (with_reducible repeat (first | apply Kd.V_alloc | apply Kd.V_drewN | apply Kd.V_drew)); exact HO_1.out) hg hat); have n2_ := Aside0.mk (hb); have n3_ := Aside0.mk (ho); clear HO_0; clear HO_1; clear HB; clear HO_5; have HO_0 := n0_; have HO_1 := n1_; have HB := n2_; have HO199 := n3_; clear n0_ n1_ n2_ n3_; clear ho hb hg hat; have p200 : 0 ≤ (0 : Int) := (by omega); have q200 : 0 < (x0_1.length : Int) := of_decide_eq_true (by first | (with_reducible assumption) | assumption); obtain ⟨ad200, e200, hx200_0, hx200_1⟩ := at_T50 (Kd.V_reads' HO_0.out).2.2 0 p200 q200; obtain rfl : ad193 = ad200 := (by injection e200); have qi200 : (0 < x0_1.length) = True := eq_true (by omega); (try rw [show ((0 : Int)).toNat = 0 from rfl] at hx200_0); (try rw [show 0 * 2 = 0 from rfl] at hx200_0); (try rw [Addr.add_zero'] at hx200_0); (try rw [show ((0 : Int)).toNat = 0 from rfl] at hx200_1); (try rw [show 0 * 2 = 0 from rfl] at hx200_1); (try rw [Addr.add_zero'] at hx200_1); replace p200 := eq_true p200; replace q200 := eq_true q200; have p201 : 0 ≤ (0 : Int) := (by omega); have q201 : 0 < (x1_1.length : Int) := of_decide_eq_true (by first | (with_reducible assumption) | assumption); obtain ⟨ad201, e201, hx201_0, hx201_1⟩ := at_T50 (Kd.V_reads' HO_1.out).2.2 0 p201 q201; obtain rfl : ad194 = ad201 := (by injection e201); have qi201 : (0 < x1_1.length) = True := eq_true (by omega); (try rw [show ((0 : Int)).toNat = 0 from rfl] at hx201_0); (try rw [show 0 * 2 = 0 from rfl] at hx201_0); (try rw [Addr.add_zero'] at hx201_0); (try rw [show ((0 : Int)).toNat = 0 from rfl] at hx201_1); (try rw [show 0 * 2 = 0 from rfl] at hx201_1); (try rw [Addr.add_zero'] at hx201_1); replace p201 := eq_true p201; replace q201 := eq_true q201; have q20 : (1 : Int) ≤ ((x0_1.length : Int) : Int) := of_decide_eq_true (by first | (with_reducible assumption) | assumption); obtain ⟨i020, hi020, _, hsz20, _⟩ := info_parts info50; have hroom20 : x0_1.length ≤ co17 := (Kd.V_reads' HO_0.out).2.1; have hC20 : Kd.F k50 _ _ (some ad193) x0_1.length x0_1 := (Kd.V_at (base := w.heap.size) HO_0.out).2.2; have hcut20 := cut_from (P := Try.prog) 22 50 .i64 Try.underlying22 hi020 2 hsz20 (some ad193) x0_1.length co17 1 (by omega) q20; have hr20 := Kd.F_cut (m := (1 : Int).toNat) (c := co17) hC20 (by omega) hroom20; obtain ⟨A20, hA20⟩ : ∃ A1, A1 = (if co17 = (1 : Int).toNat then (some ad193) else ((some ad193) : Option Addr).map (·.add ((1 : Int).toNat * 2))) := ⟨_, rfl⟩; obtain ⟨c20, hc20⟩ : ∃ c1, c1 = co17 - (1 : Int).toNat := ⟨_, rfl⟩; have hy20 : y202.length = x0_1.length - (1 : Int).toNat := (by rw [Ny202.out, List.length_drop] <;> omega); rw [show (x0_1).drop (1 : Int).toNat = y202 from Ny202.out.symm] at hr20; replace hr20 : Kd.F k50 _ _ A20 y202.length y202 := (by rw [hA20]; exact hr20); rw [← hy20, ← hA20, ← hc20] at hcut20; have HO206 := Aside0.mk (show Kd.V k50 50 _ w.heap.size _ (.slice A20 y202.length c20) y202 from Kd.V_mk (by rw [hy20, hc20]; exact Nat.sub_le_sub_right hroom20 _) hr20); have HC206 := Aside0.mk (show y202.length ≤ c20 from by rw [hy20, hc20]; exact Nat.sub_le_sub_right hroom20 _); clear hr20 hC20 hroom20 hi020 hsz20 hc20; have KY20 := Aside0.mk hy20; have KA20 := Aside0.mk hA20; clear hy20 hA20; replace q20 := eq_true q20))
                        repeat (go_quiet (first | ((with_reducible refine gate_builtin (b := .append) (xs := #[.tmp 37, .tmp 41]) rfl ?_); (try (refine gate_guard (by rfl) ?_; dsimp only)); at_builtin; refine Kd.R_append k50 (w0 := w) w.heap.size rfl (.tmp 37) (.tmp 41) 22 50 (.agg #[(.int .i32 0), (.int .i32 0)]) 8 rfl Try.underlying22 info50 rfl (by decide) (by omega) u5 x5_1 (⟨ji11, ji12⟩ : S50) [.int .i32 ji11, .int .i32 ji12] (fun k_ => (w.heap.size ≤ k_)) (fun _ => False) rfl rfl ?aP (fun _ hk => hk.elim) ?aF ?aO ?aB ?aS ?aL ?_; (case aP => exact k50_mkM _ _ _ (⟨ji11, ji12⟩ : S50)); (case aB => exact (by repeat (first | (with_reducible first | exact HB.out | apply below_alloc | apply pw_below_drewN | apply below_drew1) | exact HB.out))); (case aF => exact (fun k_ hk => (Nat.le_trans (below_size (by repeat (first | (with_reducible first | exact HB.out | apply below_alloc | apply pw_below_drewN | apply below_drew1) | exact HB.out))) hk))); (case aO => exact (by (with_reducible repeat (first | apply Kd.R_alloc | apply Kd.R_drewN | apply Kd.R_drew)); exact HO_5.out)); (case aS => exact (below_size (by repeat (first | (with_reducible first | exact HB.out | apply below_alloc | apply pw_below_drewN | apply below_drew1) | exact HB.out)))); (case aL => have := LMc14.out; omega); intro v198 w19 ho hb hg hat; rw [← Ny197.out] at ho; have n0_ := Aside0.mk (Kd.V_afterv (ok := (fun k_ => ((P0_ k_ ∨ P1_ k_) ∨ w.heap.size ≤ k_))) (by (with_reducible repeat (first | apply Kd.V_alloc | apply Kd.V_drewN | apply Kd.V_drew)); exact HO_0.out) hg hat); have n1_ := Aside0.mk (Kd.V_afterv (ok := (fun k_ => ((P0_ k_ ∨ P1_ k_) ∨ w.heap.size ≤ k_))) (by (with_reducible repeat (first | apply Kd.V_alloc | apply Kd.V_drewN | apply Kd.V_drew)); exact HO_1.out) hg hat); have n2_ := Aside0.mk (hb); have n3_ := Aside0.mk (ho); clear HO_0; clear HO_1; clear HB; clear HO_5; have HO_0 := n0_; have HO_1 := n1_; have HB := n2_; have HO199 := n3_; clear n0_ n1_ n2_ n3_; clear ho hb hg hat; have p200 : 0 ≤ (0 : Int) := (by omega); have q200 : 0 < (x0_1.length : Int) := of_decide_eq_true (by first | (with_reducible assumption) | assumption); obtain ⟨ad200, e200, hx200_0, hx200_1⟩ := at_T50 (Kd.V_reads' HO_0.out).2.2 0 p200 q200; obtain rfl : ad193 = ad200 := (by injection e200); have qi200 : (0 < x0_1.length) = True := eq_true (by omega); (try rw [show ((0 : Int)).toNat = 0 from rfl] at hx200_0); (try rw [show 0 * 2 = 0 from rfl] at hx200_0); (try rw [Addr.add_zero'] at hx200_0); (try rw [show ((0 : Int)).toNat = 0 from rfl] at hx200_1); (try rw [show 0 * 2 = 0 from rfl] at hx200_1); (try rw [Addr.add_zero'] at hx200_1); replace p200 := eq_true p200; replace q200 := eq_true q200; have p201 : 0 ≤ (0 : Int) := (by omega); have q201 : 0 < (x1_1.length : Int) := of_decide_eq_true (by first | (with_reducible assumption) | assumption); obtain ⟨ad201, e201, hx201_0, hx201_1⟩ := at_T50 (Kd.V_reads' HO_1.out).2.2 0 p201 q201; obtain rfl : ad194 = ad201 := (by injection e201); have qi201 : (0 < x1_1.length) = True := eq_true (by omega); (try rw [show ((0 : Int)).toNat = 0 from rfl] at hx201_0); (try rw [show 0 * 2 = 0 from rfl] at hx201_0); (try rw [Addr.add_zero'] at hx201_0); (try rw [show ((0 : Int)).toNat = 0 from rfl] at hx201_1); (try rw [show 0 * 2 = 0 from rfl] at hx201_1); (try rw [Addr.add_zero'] at hx201_1); replace p201 := eq_true p201; replace q201 := eq_true q201; have q20 : (1 : Int) ≤ ((x0_1.length : Int) : Int) := of_decide_eq_true (by first | (with_reducible assumption) | assumption); obtain ⟨i020, hi020, _, hsz20, _⟩ := info_parts info50; have hroom20 : x0_1.length ≤ co17 := (Kd.V_reads' HO_0.out).2.1; have hC20 : Kd.F k50 _ _ (some ad193) x0_1.length x0_1 := (Kd.V_at (base := w.heap.size) HO_0.out).2.2; have hcut20 := cut_from (P := Try.prog) 22 50 .i64 Try.underlying22 hi020 2 hsz20 (some ad193) x0_1.length co17 1 (by omega) q20; have hr20 := Kd.F_cut (m := (1 : Int).toNat) (c := co17) hC20 (by omega) hroom20; obtain ⟨A20, hA20⟩ : ∃ A1, A1 = (if co17 = (1 : Int).toNat then (some ad193) else ((some ad193) : Option Addr).map (·.add ((1 : Int).toNat * 2))) := ⟨_, rfl⟩; obtain ⟨c20, hc20⟩ : ∃ c1, c1 = co17 - (1 : Int).toNat := ⟨_, rfl⟩; have hy20 : y202.length = x0_1.length - (1 : Int).toNat := (by rw [Ny202.out, List.length_drop] <;> omega); rw [show (x0_1).drop (1 : Int).toNat = y202 from Ny202.out.symm] at hr20; replace hr20 : Kd.F k50 _ _ A20 y202.length y202 := (by rw [hA20]; exact hr20); rw [← hy20, ← hA20, ← hc20] at hcut20; have HO206 := Aside0.mk (show Kd.V k50 50 _ w.heap.size _ (.slice A20 y202.length c20) y202 from Kd.V_mk (by rw [hy20, hc20]; exact Nat.sub_le_sub_right hroom20 _) hr20); have HC206 := Aside0.mk (show y202.length ≤ c20 from by rw [hy20, hc20]; exact Nat.sub_le_sub_right hroom20 _); clear hr20 hC20 hroom20 hi020 hsz20 hc20; have KY20 := Aside0.mk hy20; have KA20 := Aside0.mk hA20; clear hy20 hA20; replace q20 := eq_true q20)); try go_wp2_with (first | ((with_reducible refine gate_builtin (b := .append) (xs := #[.tmp 37, .tmp 41]) rfl ?_); (try (refine gate_guard (by rfl) ?_; dsimp only)); at_builtin; refine Kd.R_append k50 (w0 := w) w.heap.size rfl (.tmp 37) (.tmp 41) 22 50 (.agg #[(.int .i32 0), (.int .i32 0)]) 8 rfl Try.underlying22 info50 rfl (by decide) (by omega) u5 x5_1 (⟨ji11, ji12⟩ : S50) [.int .i32 ji11, .int .i32 ji12] (fun k_ => (w.heap.size ≤ k_)) (fun _ => False) rfl rfl ?aP (fun _ hk => hk.elim) ?aF ?aO ?aB ?aS ?aL ?_; (case aP => exact k50_mkM _ _ _ (⟨ji11, ji12⟩ : S50)); (case aB => exact (by repeat (first | (with_reducible first | exact HB.out | apply below_alloc | apply pw_below_drewN | apply below_drew1) | exact HB.out))); (case aF => exact (fun k_ hk => (Nat.le_trans (below_size (by repeat (first | (with_reducible first | exact HB.out | apply below_alloc | apply pw_below_drewN | apply below_drew1) | exact HB.out))) hk))); (case aO => exact (by (with_reducible repeat (first | apply Kd.R_alloc | apply Kd.R_drewN | apply Kd.R_drew)); exact HO_5.out)); (case aS => exact (below_size (by repeat (first | (with_reducible first | exact HB.out | apply below_alloc | apply pw_below_drewN | apply below_drew1) | exact HB.out)))); (case aL => have := LMc14.out; omega); intro v198 w19 ho hb hg hat; rw [← Ny197.out] at ho; have n0_ := Aside0.mk (Kd.V_afterv (ok := (fun k_ => ((P0_ k_ ∨ P1_ k_) ∨ w.heap.size ≤ k_))) (by (with_reducible repeat (first | apply Kd.V_alloc | apply Kd.V_drewN | apply Kd.V_drew)); exact HO_0.out) hg hat); have n1_ := Aside0.mk (Kd.V_afterv (ok := (fun k_ => ((P0_ k_ ∨ P1_ k_) ∨ w.heap.size ≤ k_))) (by (with_reducible repeat (first | apply Kd.V_alloc | apply Kd.V_drewN | apply Kd.V_drew)); exact HO_1.out) hg hat); have n2_ := Aside0.mk (hb); have n3_ := Aside0.mk (ho); clear HO_0; clear HO_1; clear HB; clear HO_5; have HO_0 := n0_; have HO_1 := n1_; have HB := n2_; have HO199 := n3_; clear n0_ n1_ n2_ n3_; clear ho hb hg hat; have p200 : 0 ≤ (0 : Int) := (by omega); have q200 : 0 < (x0_1.length : Int) := of_decide_eq_true (by first | (with_reducible assumption) | assumption); obtain ⟨ad200, e200, hx200_0, hx200_1⟩ := at_T50 (Kd.V_reads' HO_0.out).2.2 0 p200 q200; obtain rfl : ad193 = ad200 := (by injection e200); have qi200 : (0 < x0_1.length) = True := eq_true (by omega); (try rw [show ((0 : Int)).toNat = 0 from rfl] at hx200_0); (try rw [show 0 * 2 = 0 from rfl] at hx200_0); (try rw [Addr.add_zero'] at hx200_0); (try rw [show ((0 : Int)).toNat = 0 from rfl] at hx200_1); (try rw [show 0 * 2 = 0 from rfl] at hx200_1); (try rw [Addr.add_zero'] at hx200_1); replace p200 := eq_true p200; replace q200 := eq_true q200; have p201 : 0 ≤ (0 : Int) := (by omega); have q201 : 0 < (x1_1.length : Int) := of_decide_eq_true (by first | (with_reducible assumption) | assumption); obtain ⟨ad201, e201, hx201_0, hx201_1⟩ := at_T50 (Kd.V_reads' HO_1.out).2.2 0 p201 q201; obtain rfl : ad194 = ad201 := (by injection e201); have qi201 : (0 < x1_1.length) = True := eq_true (by omega); (try rw [show ((0 : Int)).toNat = 0 from rfl] at hx201_0); (try rw [show 0 * 2 = 0 from rfl] at hx201_0); (try rw [Addr.add_zero'] at hx201_0); (try rw [show ((0 : Int)).toNat = 0 from rfl] at hx201_1); (try rw [show 0 * 2 = 0 from rfl] at hx201_1); (try rw [Addr.add_zero'] at hx201_1); replace p201 := eq_true p201; replace q201 := eq_true q201; have q20 : (1 : Int) ≤ ((x0_1.length : Int) : Int) := of_decide_eq_true (by first | (with_reducible assumption) | assumption); obtain ⟨i020, hi020, _, hsz20, _⟩ := info_parts info50; have hroom20 : x0_1.length ≤ co17 := (Kd.V_reads' HO_0.out).2.1; have hC20 : Kd.F k50 _ _ (some ad193) x0_1.length x0_1 := (Kd.V_at (base := w.heap.size) HO_0.out).2.2; have hcut20 := cut_from (P := Try.prog) 22 50 .i64 Try.underlying22 hi020 2 hsz20 (some ad193) x0_1.length co17 1 (by omega) q20; have hr20 := Kd.F_cut (m := (1 : Int).toNat) (c := co17) hC20 (by omega) hroom20; obtain ⟨A20, hA20⟩ : ∃ A1, A1 = (if co17 = (1 : Int).toNat then (some ad193) else ((some ad193) : Option Addr).map (·.add ((1 : Int).toNat * 2))) := ⟨_, rfl⟩; obtain ⟨c20, hc20⟩ : ∃ c1, c1 = co17 - (1 : Int).toNat := ⟨_, rfl⟩; have hy20 : y202.length = x0_1.length - (1 : Int).toNat := (by rw [Ny202.out, List.length_drop] <;> omega); rw [show (x0_1).drop (1 : Int).toNat = y202 from Ny202.out.symm] at hr20; replace hr20 : Kd.F k50 _ _ A20 y202.length y202 := (by rw [hA20]; exact hr20); rw [← hy20, ← hA20, ← hc20] at hcut20; have HO206 := Aside0.mk (show Kd.V k50 50 _ w.heap.size _ (.slice A20 y202.length c20) y202 from Kd.V_mk (by rw [hy20, hc20]; exact Nat.sub_le_sub_right hroom20 _) hr20); have HC206 := Aside0.mk (show y202.length ≤ c20 from by rw [hy20, hc20]; exact Nat.sub_le_sub_right hroom20 _); clear hr20 hC20 hroom20 hi020 hsz20 hc20; have KY20 := Aside0.mk hy20; have KA20 := Aside0.mk hA20; clear hy20 hA20; replace q20 := eq_true q20)))
                        go_roundg kj2
                        case measure => have := HK1.out; have := HJ2.out; omega
                        case rel => exact ⟨(y202), (x1_1), (y197), H', ⟨by have := HK1.out; have := HJ2.out; omega⟩, ⟨by (with_reducible repeat (first | apply Kd.V_alloc | apply Kd.V_drewN | apply Kd.V_drew)); exact HO206.out⟩, ⟨by (with_reducible repeat (first | apply Kd.V_alloc | apply Kd.V_drewN | apply Kd.V_drew)); exact HO_1.out⟩, ⟨by (with_reducible repeat (first | apply Kd.R_alloc | apply Kd.R_drewN | apply Kd.R_drew)); exact HO199.out⟩, ⟨by repeat (first | (with_reducible first | exact HB.out | apply below_alloc | apply pw_below_drewN | apply below_drew1) | exact HB.out)⟩⟩
                      · rw [if_neg c16] at H
                        exact absurd H (by simp)
                    · rw [if_neg c15] at H
                      have c15b0 : decide (((rd_T50 x0_1 0).f1) < ((rd_T50 x1_1 0).f1)) = false := decide_eq_false c15
                      clear c15
                      by_cases c21 : 1 ≤ (x1_1.length : Int)
                      · rw [if_pos c21] at H
                        have c21b0 := eq_true c21
                        have c21b1 : decide (1 ≤ (x1_1.length : Int)) = true := decide_eq_true c21
                        clear c21
                        obtain ⟨y207, hy207⟩ : ∃ y_ : List (S50), y_ = (x1_1.drop 1) := ⟨_, rfl⟩
                        replace H : (span_crossed.l0 kj2 x0_1 y207 y197) = some r := by first | (rw [hy207]; with_reducible exact H) | (have H2_ := (Option.bind_some _ _).symm.trans H; rw [hy207]; with_reducible exact H2_) | (have H2_ := (Option.bind_some _ _).symm.trans H; with_reducible exact H2_) | with_reducible exact H | (rw [hy207]; exact H) | exact H
                        have Ny207 := Aside0.mk hy207
                        clear hy207
                        have H' := Aside0.mk H
                        clear H
                        obtain ⟨Ao22, co22, eo22⟩ := Kd.V_slice HO_0.out
                        subst eo22
                        have p193 : 0 ≤ (0 : Int) := (by omega)
                        have q193 : 0 < (x0_1.length : Int) := of_decide_eq_true (by first | (with_reducible assumption) | assumption)
                        obtain ⟨ad193, e193, hx193_0, hx193_1⟩ := at_T50 (Kd.V_reads' HO_0.out).2.2 0 p193 q193
                        cases e193
                        have qi193 : (0 < x0_1.length) = True := eq_true (by omega)
                        (try rw [show ((0 : Int)).toNat = 0 from rfl] at hx193_0)
                        (try rw [show 0 * 2 = 0 from rfl] at hx193_0)
                        (try rw [Addr.add_zero'] at hx193_0)
                        (try rw [show ((0 : Int)).toNat = 0 from rfl] at hx193_1)
                        (try rw [show 0 * 2 = 0 from rfl] at hx193_1)
                        (try rw [Addr.add_zero'] at hx193_1)
                        replace p193 := eq_true p193
                        replace q193 := eq_true q193
                        obtain ⟨Ao23, co23, eo23⟩ := Kd.V_slice HO_1.out
                        subst eo23
                        have p194 : 0 ≤ (0 : Int) := (by omega)
                        have q194 : 0 < (x1_1.length : Int) := of_decide_eq_true (by first | (with_reducible assumption) | assumption)
                        obtain ⟨ad194, e194, hx194_0, hx194_1⟩ := at_T50 (Kd.V_reads' HO_1.out).2.2 0 p194 q194
                        cases e194
                        have qi194 : (0 < x1_1.length) = True := eq_true (by omega)
                        (try rw [show ((0 : Int)).toNat = 0 from rfl] at hx194_0)
                        (try rw [show 0 * 2 = 0 from rfl] at hx194_0)
                        (try rw [Addr.add_zero'] at hx194_0)
                        (try rw [show ((0 : Int)).toNat = 0 from rfl] at hx194_1)
                        (try rw [show 0 * 2 = 0 from rfl] at hx194_1)
                        (try rw [Addr.add_zero'] at hx194_1)
                        replace p194 := eq_true p194
                        replace q194 := eq_true q194
                        have p195 : 0 ≤ (0 : Int) := (by omega)
                        have q195 : 0 < (x0_1.length : Int) := of_decide_eq_true (by first | (with_reducible assumption) | assumption)
                        obtain ⟨ad195, e195, hx195_0, hx195_1⟩ := at_T50 (Kd.V_reads' HO_0.out).2.2 0 p195 q195
                        obtain rfl : ad193 = ad195 := (by injection e195)
                        have qi195 : (0 < x0_1.length) = True := eq_true (by omega)
                        (try rw [show ((0 : Int)).toNat = 0 from rfl] at hx195_0)
                        (try rw [show 0 * 2 = 0 from rfl] at hx195_0)
                        (try rw [Addr.add_zero'] at hx195_0)
                        (try rw [show ((0 : Int)).toNat = 0 from rfl] at hx195_1)
                        (try rw [show 0 * 2 = 0 from rfl] at hx195_1)
                        (try rw [Addr.add_zero'] at hx195_1)
                        replace p195 := eq_true p195
                        replace q195 := eq_true q195
                        have p196 : 0 ≤ (0 : Int) := (by omega)
                        have q196 : 0 < (x1_1.length : Int) := of_decide_eq_true (by first | (with_reducible assumption) | assumption)
                        obtain ⟨ad196, e196, hx196_0, hx196_1⟩ := at_T50 (Kd.V_reads' HO_1.out).2.2 0 p196 q196
                        obtain rfl : ad194 = ad196 := (by injection e196)
                        have qi196 : (0 < x1_1.length) = True := eq_true (by omega)
                        (try rw [show ((0 : Int)).toNat = 0 from rfl] at hx196_0)
                        (try rw [show 0 * 2 = 0 from rfl] at hx196_0)
                        (try rw [Addr.add_zero'] at hx196_0)
                        (try rw [show ((0 : Int)).toNat = 0 from rfl] at hx196_1)
                        (try rw [show 0 * 2 = 0 from rfl] at hx196_1)
                        (try rw [Addr.add_zero'] at hx196_1)
                        replace p196 := eq_true p196
                        replace q196 := eq_true q196
                        go_wp2_with (first | ((with_reducible refine gate_builtin (b := .append) (xs := #[.tmp 37, .tmp 41]) rfl ?_); (try (refine gate_guard (by rfl) ?_; dsimp only)); at_builtin; refine Kd.R_append k50 (w0 := w) w.heap.size rfl (.tmp 37) (.tmp 41) 22 50 (.agg #[(.int .i32 0), (.int .i32 0)]) 8 rfl Try.underlying22 info50 rfl (by decide) (by omega) u5 x5_1 (⟨ji11, ji12⟩ : S50) [.int .i32 ji11, .int .i32 ji12] (fun k_ => (w.heap.size ≤ k_)) (fun _ => False) rfl rfl ?aP (fun _ hk => hk.elim) ?aF ?aO ?aB ?aS ?aL ?_; (case aP => exact k50_mkM _ _ _ (⟨ji11, ji12⟩ : S50)); (case aB => exact (by repeat (first | (with_reducible first | exact HB.out | apply below_alloc | apply pw_below_drewN | apply below_drew1) | exact HB.out))); (case aF => exact (fun k_ hk => (Nat.le_trans (below_size (by repeat (first | (with_reducible first | exact HB.out | apply below_alloc | apply pw_below_drewN | apply below_drew1) | exact HB.out))) hk))); (case aO => exact (by (with_reducible repeat (first | apply Kd.R_alloc | apply Kd.R_drewN | apply Kd.R_drew)); exact HO_5.out)); (case aS => exact (below_size (by repeat (first | (with_reducible first | exact HB.out | apply below_alloc | apply pw_below_drewN | apply below_drew1) | exact HB.out)))); (case aL => have := LMc14.out; omega); intro v198 w24 ho hb hg hat; rw [← Ny197.out] at ho; have n0_ := Aside0.mk (Kd.V_afterv (ok := (fun k_ => ((P0_ k_ ∨ P1_ k_) ∨ w.heap.size ≤ k_))) (by (with_reducible repeat (first | apply Kd.V_alloc | apply Kd.V_drewN | apply Kd.V_drew)); exact HO_0.out) hg hat); have n1_ := Aside0.mk (Kd.V_afterv (ok := (fun k_ => ((P0_ k_ ∨ P1_ k_) ∨ w.heap.size ≤ k_))) (by (with_reducible repeat (first | apply Kd.V_alloc | apply Kd.V_drewN | apply Kd.V_drew)); exact HO_1.out) hg hat); have n2_ := Aside0.mk (hb); have n3_ := Aside0.mk (ho); clear HO_0; clear HO_1; clear HB; clear HO_5; have HO_0 := n0_; have HO_1 := n1_; have HB := n2_; have HO199 := n3_; clear n0_ n1_ n2_ n3_; clear ho hb hg hat; have p200 : 0 ≤ (0 : Int) := (by omega); have q200 : 0 < (x0_1.length : Int) := of_decide_eq_true (by first | (with_reducible assumption) | assumption); obtain ⟨ad200, e200, hx200_0, hx200_1⟩ := at_T50 (Kd.V_reads' HO_0.out).2.2 0 p200 q200; obtain rfl : ad193 = ad200 := (by injection e200); have qi200 : (0 < x0_1.length) = True := eq_true (by omega); (try rw [show ((0 : Int)).toNat = 0 from rfl] at hx200_0); (try rw [show 0 * 2 = 0 from rfl] at hx200_0); (try rw [Addr.add_zero'] at hx200_0); (try rw [show ((0 : Int)).toNat = 0 from rfl] at hx200_1); (try rw [show 0 * 2 = 0 from rfl] at hx200_1); (try rw [Addr.add_zero'] at hx200_1); replace p200 := eq_true p200; replace q200 := eq_true q200; have p201 : 0 ≤ (0 : Int) := (by omega); have q201 : 0 < (x1_1.length : Int) := of_decide_eq_true (by first | (with_reducible assumption) | assumption); obtain ⟨ad201, e201, hx201_0, hx201_1⟩ := at_T50 (Kd.V_reads' HO_1.out).2.2 0 p201 q201; obtain rfl : ad194 = ad201 := (by injection e201); have qi201 : (0 < x1_1.length) = True := eq_true (by omega); (try rw [show ((0 : Int)).toNat = 0 from rfl] at hx201_0); (try rw [show 0 * 2 = 0 from rfl] at hx201_0); (try rw [Addr.add_zero'] at hx201_0); (try rw [show ((0 : Int)).toNat = 0 from rfl] at hx201_1); (try rw [show 0 * 2 = 0 from rfl] at hx201_1); (try rw [Addr.add_zero'] at hx201_1); replace p201 := eq_true p201; replace q201 := eq_true q201; have q25 : (1 : Int) ≤ ((x1_1.length : Int) : Int) := of_decide_eq_true (by first | (with_reducible assumption) | assumption); obtain ⟨i025, hi025, _, hsz25, _⟩ := info_parts info50; have hroom25 : x1_1.length ≤ co23 := (Kd.V_reads' HO_1.out).2.1; have hC25 : Kd.F k50 _ _ (some ad194) x1_1.length x1_1 := (Kd.V_at (base := w.heap.size) HO_1.out).2.2; have hcut25 := cut_from (P := Try.prog) 22 50 .i64 Try.underlying22 hi025 2 hsz25 (some ad194) x1_1.length co23 1 (by omega) q25; have hr25 := Kd.F_cut (m := (1 : Int).toNat) (c := co23) hC25 (by omega) hroom25; obtain ⟨A25, hA25⟩ : ∃ A1, A1 = (if co23 = (1 : Int).toNat then (some ad194) else ((some ad194) : Option Addr).map (·.add ((1 : Int).toNat * 2))) := ⟨_, rfl⟩; obtain ⟨c25, hc25⟩ : ∃ c1, c1 = co23 - (1 : Int).toNat := ⟨_, rfl⟩; have hy25 : y207.length = x1_1.length - (1 : Int).toNat := (by rw [Ny207.out, List.length_drop] <;> omega); rw [show (x1_1).drop (1 : Int).toNat = y207 from Ny207.out.symm] at hr25; replace hr25 : Kd.F k50 _ _ A25 y207.length y207 := (by rw [hA25]; exact hr25); rw [← hy25, ← hA25, ← hc25] at hcut25; have HO211 := Aside0.mk (show Kd.V k50 50 _ w.heap.size _ (.slice A25 y207.length c25) y207 from Kd.V_mk (by rw [hy25, hc25]; exact Nat.sub_le_sub_right hroom25 _) hr25); have HC211 := Aside0.mk (show y207.length ≤ c25 from by rw [hy25, hc25]; exact Nat.sub_le_sub_right hroom25 _); clear hr25 hC25 hroom25 hi025 hsz25 hc25; have KY25 := Aside0.mk hy25; have KA25 := Aside0.mk hA25; clear hy25 hA25; replace q25 := eq_true q25))
                        repeat (go_quiet (first | ((with_reducible refine gate_builtin (b := .append) (xs := #[.tmp 37, .tmp 41]) rfl ?_); (try (refine gate_guard (by rfl) ?_; dsimp only)); at_builtin; refine Kd.R_append k50 (w0 := w) w.heap.size rfl (.tmp 37) (.tmp 41) 22 50 (.agg #[(.int .i32 0), (.int .i32 0)]) 8 rfl Try.underlying22 info50 rfl (by decide) (by omega) u5 x5_1 (⟨ji11, ji12⟩ : S50) [.int .i32 ji11, .int .i32 ji12] (fun k_ => (w.heap.size ≤ k_)) (fun _ => False) rfl rfl ?aP (fun _ hk => hk.elim) ?aF ?aO ?aB ?aS ?aL ?_; (case aP => exact k50_mkM _ _ _ (⟨ji11, ji12⟩ : S50)); (case aB => exact (by repeat (first | (with_reducible first | exact HB.out | apply below_alloc | apply pw_below_drewN | apply below_drew1) | exact HB.out))); (case aF => exact (fun k_ hk => (Nat.le_trans (below_size (by repeat (first | (with_reducible first | exact HB.out | apply below_alloc | apply pw_below_drewN | apply below_drew1) | exact HB.out))) hk))); (case aO => exact (by (with_reducible repeat (first | apply Kd.R_alloc | apply Kd.R_drewN | apply Kd.R_drew)); exact HO_5.out)); (case aS => exact (below_size (by repeat (first | (with_reducible first | exact HB.out | apply below_alloc | apply pw_below_drewN | apply below_drew1) | exact HB.out)))); (case aL => have := LMc14.out; omega); intro v198 w24 ho hb hg hat; rw [← Ny197.out] at ho; have n0_ := Aside0.mk (Kd.V_afterv (ok := (fun k_ => ((P0_ k_ ∨ P1_ k_) ∨ w.heap.size ≤ k_))) (by (with_reducible repeat (first | apply Kd.V_alloc | apply Kd.V_drewN | apply Kd.V_drew)); exact HO_0.out) hg hat); have n1_ := Aside0.mk (Kd.V_afterv (ok := (fun k_ => ((P0_ k_ ∨ P1_ k_) ∨ w.heap.size ≤ k_))) (by (with_reducible repeat (first | apply Kd.V_alloc | apply Kd.V_drewN | apply Kd.V_drew)); exact HO_1.out) hg hat); have n2_ := Aside0.mk (hb); have n3_ := Aside0.mk (ho); clear HO_0; clear HO_1; clear HB; clear HO_5; have HO_0 := n0_; have HO_1 := n1_; have HB := n2_; have HO199 := n3_; clear n0_ n1_ n2_ n3_; clear ho hb hg hat; have p200 : 0 ≤ (0 : Int) := (by omega); have q200 : 0 < (x0_1.length : Int) := of_decide_eq_true (by first | (with_reducible assumption) | assumption); obtain ⟨ad200, e200, hx200_0, hx200_1⟩ := at_T50 (Kd.V_reads' HO_0.out).2.2 0 p200 q200; obtain rfl : ad193 = ad200 := (by injection e200); have qi200 : (0 < x0_1.length) = True := eq_true (by omega); (try rw [show ((0 : Int)).toNat = 0 from rfl] at hx200_0); (try rw [show 0 * 2 = 0 from rfl] at hx200_0); (try rw [Addr.add_zero'] at hx200_0); (try rw [show ((0 : Int)).toNat = 0 from rfl] at hx200_1); (try rw [show 0 * 2 = 0 from rfl] at hx200_1); (try rw [Addr.add_zero'] at hx200_1); replace p200 := eq_true p200; replace q200 := eq_true q200; have p201 : 0 ≤ (0 : Int) := (by omega); have q201 : 0 < (x1_1.length : Int) := of_decide_eq_true (by first | (with_reducible assumption) | assumption); obtain ⟨ad201, e201, hx201_0, hx201_1⟩ := at_T50 (Kd.V_reads' HO_1.out).2.2 0 p201 q201; obtain rfl : ad194 = ad201 := (by injection e201); have qi201 : (0 < x1_1.length) = True := eq_true (by omega); (try rw [show ((0 : Int)).toNat = 0 from rfl] at hx201_0); (try rw [show 0 * 2 = 0 from rfl] at hx201_0); (try rw [Addr.add_zero'] at hx201_0); (try rw [show ((0 : Int)).toNat = 0 from rfl] at hx201_1); (try rw [show 0 * 2 = 0 from rfl] at hx201_1); (try rw [Addr.add_zero'] at hx201_1); replace p201 := eq_true p201; replace q201 := eq_true q201; have q25 : (1 : Int) ≤ ((x1_1.length : Int) : Int) := of_decide_eq_true (by first | (with_reducible assumption) | assumption); obtain ⟨i025, hi025, _, hsz25, _⟩ := info_parts info50; have hroom25 : x1_1.length ≤ co23 := (Kd.V_reads' HO_1.out).2.1; have hC25 : Kd.F k50 _ _ (some ad194) x1_1.length x1_1 := (Kd.V_at (base := w.heap.size) HO_1.out).2.2; have hcut25 := cut_from (P := Try.prog) 22 50 .i64 Try.underlying22 hi025 2 hsz25 (some ad194) x1_1.length co23 1 (by omega) q25; have hr25 := Kd.F_cut (m := (1 : Int).toNat) (c := co23) hC25 (by omega) hroom25; obtain ⟨A25, hA25⟩ : ∃ A1, A1 = (if co23 = (1 : Int).toNat then (some ad194) else ((some ad194) : Option Addr).map (·.add ((1 : Int).toNat * 2))) := ⟨_, rfl⟩; obtain ⟨c25, hc25⟩ : ∃ c1, c1 = co23 - (1 : Int).toNat := ⟨_, rfl⟩; have hy25 : y207.length = x1_1.length - (1 : Int).toNat := (by rw [Ny207.out, List.length_drop] <;> omega); rw [show (x1_1).drop (1 : Int).toNat = y207 from Ny207.out.symm] at hr25; replace hr25 : Kd.F k50 _ _ A25 y207.length y207 := (by rw [hA25]; exact hr25); rw [← hy25, ← hA25, ← hc25] at hcut25; have HO211 := Aside0.mk (show Kd.V k50 50 _ w.heap.size _ (.slice A25 y207.length c25) y207 from Kd.V_mk (by rw [hy25, hc25]; exact Nat.sub_le_sub_right hroom25 _) hr25); have HC211 := Aside0.mk (show y207.length ≤ c25 from by rw [hy25, hc25]; exact Nat.sub_le_sub_right hroom25 _); clear hr25 hC25 hroom25 hi025 hsz25 hc25; have KY25 := Aside0.mk hy25; have KA25 := Aside0.mk hA25; clear hy25 hA25; replace q25 := eq_true q25)); try go_wp2_with (first | ((with_reducible refine gate_builtin (b := .append) (xs := #[.tmp 37, .tmp 41]) rfl ?_); (try (refine gate_guard (by rfl) ?_; dsimp only)); at_builtin; refine Kd.R_append k50 (w0 := w) w.heap.size rfl (.tmp 37) (.tmp 41) 22 50 (.agg #[(.int .i32 0), (.int .i32 0)]) 8 rfl Try.underlying22 info50 rfl (by decide) (by omega) u5 x5_1 (⟨ji11, ji12⟩ : S50) [.int .i32 ji11, .int .i32 ji12] (fun k_ => (w.heap.size ≤ k_)) (fun _ => False) rfl rfl ?aP (fun _ hk => hk.elim) ?aF ?aO ?aB ?aS ?aL ?_; (case aP => exact k50_mkM _ _ _ (⟨ji11, ji12⟩ : S50)); (case aB => exact (by repeat (first | (with_reducible first | exact HB.out | apply below_alloc | apply pw_below_drewN | apply below_drew1) | exact HB.out))); (case aF => exact (fun k_ hk => (Nat.le_trans (below_size (by repeat (first | (with_reducible first | exact HB.out | apply below_alloc | apply pw_below_drewN | apply below_drew1) | exact HB.out))) hk))); (case aO => exact (by (with_reducible repeat (first | apply Kd.R_alloc | apply Kd.R_drewN | apply Kd.R_drew)); exact HO_5.out)); (case aS => exact (below_size (by repeat (first | (with_reducible first | exact HB.out | apply below_alloc | apply pw_below_drewN | apply below_drew1) | exact HB.out)))); (case aL => have := LMc14.out; omega); intro v198 w24 ho hb hg hat; rw [← Ny197.out] at ho; have n0_ := Aside0.mk (Kd.V_afterv (ok := (fun k_ => ((P0_ k_ ∨ P1_ k_) ∨ w.heap.size ≤ k_))) (by (with_reducible repeat (first | apply Kd.V_alloc | apply Kd.V_drewN | apply Kd.V_drew)); exact HO_0.out) hg hat); have n1_ := Aside0.mk (Kd.V_afterv (ok := (fun k_ => ((P0_ k_ ∨ P1_ k_) ∨ w.heap.size ≤ k_))) (by (with_reducible repeat (first | apply Kd.V_alloc | apply Kd.V_drewN | apply Kd.V_drew)); exact HO_1.out) hg hat); have n2_ := Aside0.mk (hb); have n3_ := Aside0.mk (ho); clear HO_0; clear HO_1; clear HB; clear HO_5; have HO_0 := n0_; have HO_1 := n1_; have HB := n2_; have HO199 := n3_; clear n0_ n1_ n2_ n3_; clear ho hb hg hat; have p200 : 0 ≤ (0 : Int) := (by omega); have q200 : 0 < (x0_1.length : Int) := of_decide_eq_true (by first | (with_reducible assumption) | assumption); obtain ⟨ad200, e200, hx200_0, hx200_1⟩ := at_T50 (Kd.V_reads' HO_0.out).2.2 0 p200 q200; obtain rfl : ad193 = ad200 := (by injection e200); have qi200 : (0 < x0_1.length) = True := eq_true (by omega); (try rw [show ((0 : Int)).toNat = 0 from rfl] at hx200_0); (try rw [show 0 * 2 = 0 from rfl] at hx200_0); (try rw [Addr.add_zero'] at hx200_0); (try rw [show ((0 : Int)).toNat = 0 from rfl] at hx200_1); (try rw [show 0 * 2 = 0 from rfl] at hx200_1); (try rw [Addr.add_zero'] at hx200_1); replace p200 := eq_true p200; replace q200 := eq_true q200; have p201 : 0 ≤ (0 : Int) := (by omega); have q201 : 0 < (x1_1.length : Int) := of_decide_eq_true (by first | (with_reducible assumption) | assumption); obtain ⟨ad201, e201, hx201_0, hx201_1⟩ := at_T50 (Kd.V_reads' HO_1.out).2.2 0 p201 q201; obtain rfl : ad194 = ad201 := (by injection e201); have qi201 : (0 < x1_1.length) = True := eq_true (by omega); (try rw [show ((0 : Int)).toNat = 0 from rfl] at hx201_0); (try rw [show 0 * 2 = 0 from rfl] at hx201_0); (try rw [Addr.add_zero'] at hx201_0); (try rw [show ((0 : Int)).toNat = 0 from rfl] at hx201_1); (try rw [show 0 * 2 = 0 from rfl] at hx201_1); (try rw [Addr.add_zero'] at hx201_1); replace p201 := eq_true p201; replace q201 := eq_true q201; have q25 : (1 : Int) ≤ ((x1_1.length : Int) : Int) := of_decide_eq_true (by first | (with_reducible assumption) | assumption); obtain ⟨i025, hi025, _, hsz25, _⟩ := info_parts info50; have hroom25 : x1_1.length ≤ co23 := (Kd.V_reads' HO_1.out).2.1; have hC25 : Kd.F k50 _ _ (some ad194) x1_1.length x1_1 := (Kd.V_at (base := w.heap.size) HO_1.out).2.2; have hcut25 := cut_from (P := Try.prog) 22 50 .i64 Try.underlying22 hi025 2 hsz25 (some ad194) x1_1.length co23 1 (by omega) q25; have hr25 := Kd.F_cut (m := (1 : Int).toNat) (c := co23) hC25 (by omega) hroom25; obtain ⟨A25, hA25⟩ : ∃ A1, A1 = (if co23 = (1 : Int).toNat then (some ad194) else ((some ad194) : Option Addr).map (·.add ((1 : Int).toNat * 2))) := ⟨_, rfl⟩; obtain ⟨c25, hc25⟩ : ∃ c1, c1 = co23 - (1 : Int).toNat := ⟨_, rfl⟩; have hy25 : y207.length = x1_1.length - (1 : Int).toNat := (by rw [Ny207.out, List.length_drop] <;> omega); rw [show (x1_1).drop (1 : Int).toNat = y207 from Ny207.out.symm] at hr25; replace hr25 : Kd.F k50 _ _ A25 y207.length y207 := (by rw [hA25]; exact hr25); rw [← hy25, ← hA25, ← hc25] at hcut25; have HO211 := Aside0.mk (show Kd.V k50 50 _ w.heap.size _ (.slice A25 y207.length c25) y207 from Kd.V_mk (by rw [hy25, hc25]; exact Nat.sub_le_sub_right hroom25 _) hr25); have HC211 := Aside0.mk (show y207.length ≤ c25 from by rw [hy25, hc25]; exact Nat.sub_le_sub_right hroom25 _); clear hr25 hC25 hroom25 hi025 hsz25 hc25; have KY25 := Aside0.mk hy25; have KA25 := Aside0.mk hA25; clear hy25 hA25; replace q25 := eq_true q25)))
                        go_roundg kj2
                        case measure => have := HK1.out; have := HJ2.out; omega
                        case rel => exact ⟨(x0_1), (y207), (y197), H', ⟨by have := HK1.out; have := HJ2.out; omega⟩, ⟨by (with_reducible repeat (first | apply Kd.V_alloc | apply Kd.V_drewN | apply Kd.V_drew)); exact HO_0.out⟩, ⟨by (with_reducible repeat (first | apply Kd.V_alloc | apply Kd.V_drewN | apply Kd.V_drew)); exact HO211.out⟩, ⟨by (with_reducible repeat (first | apply Kd.R_alloc | apply Kd.R_drewN | apply Kd.R_drew)); exact HO199.out⟩, ⟨by repeat (first | (with_reducible first | exact HB.out | apply below_alloc | apply pw_below_drewN | apply below_drew1) | exact HB.out)⟩⟩
                      · rw [if_neg c21] at H
                        exact absurd H (by simp)
                  · rw [if_neg c14] at H
                    exact absurd H (by simp)
                · rw [if_neg c13] at H
                  have c13b0 : decide ((ji11) ≤ (ji12)) = false := decide_eq_false c13
                  clear c13
                  by_cases c26 : ((rd_T50 x0_1 0).f1) < ((rd_T50 x1_1 0).f1)
                  · rw [if_pos c26] at H
                    have c26b0 : decide (((rd_T50 x0_1 0).f1) < ((rd_T50 x1_1 0).f1)) = true := decide_eq_true c26
                    clear c26
                    by_cases c27 : 1 ≤ (x0_1.length : Int)
                    · rw [if_pos c27] at H
                      have c27b0 := eq_true c27
                      have c27b1 : decide (1 ≤ (x0_1.length : Int)) = true := decide_eq_true c27
                      clear c27
                      obtain ⟨y214, hy214⟩ : ∃ y_ : List (S50), y_ = (x0_1.drop 1) := ⟨_, rfl⟩
                      replace H : (span_crossed.l0 kj2 y214 x1_1 x5_1) = some r := by first | (rw [hy214]; with_reducible exact H) | (have H2_ := (Option.bind_some _ _).symm.trans H; rw [hy214]; with_reducible exact H2_) | (have H2_ := (Option.bind_some _ _).symm.trans H; with_reducible exact H2_) | with_reducible exact H | (rw [hy214]; exact H) | exact H
                      have Ny214 := Aside0.mk hy214
                      clear hy214
                      have H' := Aside0.mk H
                      clear H
                      obtain ⟨Ao28, co28, eo28⟩ := Kd.V_slice HO_0.out
                      subst eo28
                      have p193 : 0 ≤ (0 : Int) := (by omega)
                      have q193 : 0 < (x0_1.length : Int) := of_decide_eq_true (by first | (with_reducible assumption) | assumption)
                      obtain ⟨ad193, e193, hx193_0, hx193_1⟩ := at_T50 (Kd.V_reads' HO_0.out).2.2 0 p193 q193
                      cases e193
                      have qi193 : (0 < x0_1.length) = True := eq_true (by omega)
                      (try rw [show ((0 : Int)).toNat = 0 from rfl] at hx193_0)
                      (try rw [show 0 * 2 = 0 from rfl] at hx193_0)
                      (try rw [Addr.add_zero'] at hx193_0)
                      (try rw [show ((0 : Int)).toNat = 0 from rfl] at hx193_1)
                      (try rw [show 0 * 2 = 0 from rfl] at hx193_1)
                      (try rw [Addr.add_zero'] at hx193_1)
                      replace p193 := eq_true p193
                      replace q193 := eq_true q193
                      obtain ⟨Ao29, co29, eo29⟩ := Kd.V_slice HO_1.out
                      subst eo29
                      have p194 : 0 ≤ (0 : Int) := (by omega)
                      have q194 : 0 < (x1_1.length : Int) := of_decide_eq_true (by first | (with_reducible assumption) | assumption)
                      obtain ⟨ad194, e194, hx194_0, hx194_1⟩ := at_T50 (Kd.V_reads' HO_1.out).2.2 0 p194 q194
                      cases e194
                      have qi194 : (0 < x1_1.length) = True := eq_true (by omega)
                      (try rw [show ((0 : Int)).toNat = 0 from rfl] at hx194_0)
                      (try rw [show 0 * 2 = 0 from rfl] at hx194_0)
                      (try rw [Addr.add_zero'] at hx194_0)
                      (try rw [show ((0 : Int)).toNat = 0 from rfl] at hx194_1)
                      (try rw [show 0 * 2 = 0 from rfl] at hx194_1)
                      (try rw [Addr.add_zero'] at hx194_1)
                      replace p194 := eq_true p194
                      replace q194 := eq_true q194
                      have p195 : 0 ≤ (0 : Int) := (by omega)
                      have q195 : 0 < (x0_1.length : Int) := of_decide_eq_true (by first | (with_reducible assumption) | assumption)
                      obtain ⟨ad195, e195, hx195_0, hx195_1⟩ := at_T50 (Kd.V_reads' HO_0.out).2.2 0 p195 q195
                      obtain rfl : ad193 = ad195 := (by injection e195)
                      have qi195 : (0 < x0_1.length) = True := eq_true (by omega)
                      (try rw [show ((0 : Int)).toNat = 0 from rfl] at hx195_0)
                      (try rw [show 0 * 2 = 0 from rfl] at hx195_0)
                      (try rw [Addr.add_zero'] at hx195_0)
                      (try rw [show ((0 : Int)).toNat = 0 from rfl] at hx195_1)
                      (try rw [show 0 * 2 = 0 from rfl] at hx195_1)
                      (try rw [Addr.add_zero'] at hx195_1)
                      replace p195 := eq_true p195
                      replace q195 := eq_true q195
                      have p196 : 0 ≤ (0 : Int) := (by omega)
                      have q196 : 0 < (x1_1.length : Int) := of_decide_eq_true (by first | (with_reducible assumption) | assumption)
                      obtain ⟨ad196, e196, hx196_0, hx196_1⟩ := at_T50 (Kd.V_reads' HO_1.out).2.2 0 p196 q196
                      obtain rfl : ad194 = ad196 := (by injection e196)
                      have qi196 : (0 < x1_1.length) = True := eq_true (by omega)
                      (try rw [show ((0 : Int)).toNat = 0 from rfl] at hx196_0)
                      (try rw [show 0 * 2 = 0 from rfl] at hx196_0)
                      (try rw [Addr.add_zero'] at hx196_0)
                      (try rw [show ((0 : Int)).toNat = 0 from rfl] at hx196_1)
                      (try rw [show 0 * 2 = 0 from rfl] at hx196_1)
                      (try rw [Addr.add_zero'] at hx196_1)
                      replace p196 := eq_true p196
                      replace q196 := eq_true q196
                      have p212 : 0 ≤ (0 : Int) := (by omega)
                      have q212 : 0 < (x0_1.length : Int) := of_decide_eq_true (by first | (with_reducible assumption) | assumption)
                      obtain ⟨ad212, e212, hx212_0, hx212_1⟩ := at_T50 (Kd.V_reads' HO_0.out).2.2 0 p212 q212
                      obtain rfl : ad193 = ad212 := (by injection e212)
                      have qi212 : (0 < x0_1.length) = True := eq_true (by omega)
                      (try rw [show ((0 : Int)).toNat = 0 from rfl] at hx212_0)
                      (try rw [show 0 * 2 = 0 from rfl] at hx212_0)
                      (try rw [Addr.add_zero'] at hx212_0)
                      (try rw [show ((0 : Int)).toNat = 0 from rfl] at hx212_1)
                      (try rw [show 0 * 2 = 0 from rfl] at hx212_1)
                      (try rw [Addr.add_zero'] at hx212_1)
                      replace p212 := eq_true p212
                      replace q212 := eq_true q212
                      have p213 : 0 ≤ (0 : Int) := (by omega)
                      have q213 : 0 < (x1_1.length : Int) := of_decide_eq_true (by first | (with_reducible assumption) | assumption)
                      obtain ⟨ad213, e213, hx213_0, hx213_1⟩ := at_T50 (Kd.V_reads' HO_1.out).2.2 0 p213 q213
                      obtain rfl : ad194 = ad213 := (by injection e213)
                      have qi213 : (0 < x1_1.length) = True := eq_true (by omega)
                      (try rw [show ((0 : Int)).toNat = 0 from rfl] at hx213_0)
                      (try rw [show 0 * 2 = 0 from rfl] at hx213_0)
                      (try rw [Addr.add_zero'] at hx213_0)
                      (try rw [show ((0 : Int)).toNat = 0 from rfl] at hx213_1)
                      (try rw [show 0 * 2 = 0 from rfl] at hx213_1)
                      (try rw [Addr.add_zero'] at hx213_1)
                      replace p213 := eq_true p213
                      replace q213 := eq_true q213
                      have q30 : (1 : Int) ≤ ((x0_1.length : Int) : Int) := of_decide_eq_true (by first | (with_reducible assumption) | assumption)
                      obtain ⟨i030, hi030, _, hsz30, _⟩ := info_parts info50
                      have hroom30 : x0_1.length ≤ co28 := (Kd.V_reads' HO_0.out).2.1
                      have hC30 : Kd.F k50 _ _ (some ad193) x0_1.length x0_1 := (Kd.V_at (base := w.heap.size) HO_0.out).2.2
                      have hcut30 := cut_from (P := Try.prog) 22 50 .i64 Try.underlying22 hi030 2 hsz30 (some ad193) x0_1.length co28 1 (by omega) q30
                      have hr30 := Kd.F_cut (m := (1 : Int).toNat) (c := co28) hC30 (by omega) hroom30
                      obtain ⟨A30, hA30⟩ : ∃ A1, A1 = (if co28 = (1 : Int).toNat then (some ad193) else ((some ad193) : Option Addr).map (·.add ((1 : Int).toNat * 2))) := ⟨_, rfl⟩
                      obtain ⟨c30, hc30⟩ : ∃ c1, c1 = co28 - (1 : Int).toNat := ⟨_, rfl⟩
                      have hy30 : y214.length = x0_1.length - (1 : Int).toNat := (by rw [Ny214.out, List.length_drop] <;> omega)
                      rw [show (x0_1).drop (1 : Int).toNat = y214 from Ny214.out.symm] at hr30
                      replace hr30 : Kd.F k50 _ _ A30 y214.length y214 := (by rw [hA30]; exact hr30)
                      rw [← hy30, ← hA30, ← hc30] at hcut30
                      have HO218 := Aside0.mk (show Kd.V k50 50 _ w.heap.size _ (.slice A30 y214.length c30) y214 from Kd.V_mk (by rw [hy30, hc30]; exact Nat.sub_le_sub_right hroom30 _) hr30)
                      have HC218 := Aside0.mk (show y214.length ≤ c30 from by rw [hy30, hc30]; exact Nat.sub_le_sub_right hroom30 _)
                      clear hr30 hC30 hroom30 hi030 hsz30 hc30
                      have KY30 := Aside0.mk hy30
                      have KA30 := Aside0.mk hA30
                      clear hy30 hA30
                      replace q30 := eq_true q30
                      go_wp2
                      repeat (go_quiet (fail); try go_wp2)
                      go_roundg kj2
                      case measure => have := HK1.out; have := HJ2.out; omega
                      case rel => exact ⟨(y214), (x1_1), (x5_1), H', ⟨by have := HK1.out; have := HJ2.out; omega⟩, ⟨by (with_reducible repeat (first | apply Kd.V_alloc | apply Kd.V_drewN | apply Kd.V_drew)); exact HO218.out⟩, ⟨by (with_reducible repeat (first | apply Kd.V_alloc | apply Kd.V_drewN | apply Kd.V_drew)); exact HO_1.out⟩, ⟨by (with_reducible repeat (first | apply Kd.R_alloc | apply Kd.R_drewN | apply Kd.R_drew)); exact HO_5.out⟩, ⟨by repeat (first | (with_reducible first | exact HB.out | apply below_alloc | apply pw_below_drewN | apply below_drew1) | exact HB.out)⟩⟩
                    · rw [if_neg c27] at H
                      exact absurd H (by simp)
                  · rw [if_neg c26] at H
                    have c26b0 : decide (((rd_T50 x0_1 0).f1) < ((rd_T50 x1_1 0).f1)) = false := decide_eq_false c26
                    clear c26
                    by_cases c31 : 1 ≤ (x1_1.length : Int)
                    · rw [if_pos c31] at H
                      have c31b0 := eq_true c31
                      have c31b1 : decide (1 ≤ (x1_1.length : Int)) = true := decide_eq_true c31
                      clear c31
                      obtain ⟨y219, hy219⟩ : ∃ y_ : List (S50), y_ = (x1_1.drop 1) := ⟨_, rfl⟩
                      replace H : (span_crossed.l0 kj2 x0_1 y219 x5_1) = some r := by first | (rw [hy219]; with_reducible exact H) | (have H2_ := (Option.bind_some _ _).symm.trans H; rw [hy219]; with_reducible exact H2_) | (have H2_ := (Option.bind_some _ _).symm.trans H; with_reducible exact H2_) | with_reducible exact H | (rw [hy219]; exact H) | exact H
                      have Ny219 := Aside0.mk hy219
                      clear hy219
                      have H' := Aside0.mk H
                      clear H
                      obtain ⟨Ao32, co32, eo32⟩ := Kd.V_slice HO_0.out
                      subst eo32
                      have p193 : 0 ≤ (0 : Int) := (by omega)
                      have q193 : 0 < (x0_1.length : Int) := of_decide_eq_true (by first | (with_reducible assumption) | assumption)
                      obtain ⟨ad193, e193, hx193_0, hx193_1⟩ := at_T50 (Kd.V_reads' HO_0.out).2.2 0 p193 q193
                      cases e193
                      have qi193 : (0 < x0_1.length) = True := eq_true (by omega)
                      (try rw [show ((0 : Int)).toNat = 0 from rfl] at hx193_0)
                      (try rw [show 0 * 2 = 0 from rfl] at hx193_0)
                      (try rw [Addr.add_zero'] at hx193_0)
                      (try rw [show ((0 : Int)).toNat = 0 from rfl] at hx193_1)
                      (try rw [show 0 * 2 = 0 from rfl] at hx193_1)
                      (try rw [Addr.add_zero'] at hx193_1)
                      replace p193 := eq_true p193
                      replace q193 := eq_true q193
                      obtain ⟨Ao33, co33, eo33⟩ := Kd.V_slice HO_1.out
                      subst eo33
                      have p194 : 0 ≤ (0 : Int) := (by omega)
                      have q194 : 0 < (x1_1.length : Int) := of_decide_eq_true (by first | (with_reducible assumption) | assumption)
                      obtain ⟨ad194, e194, hx194_0, hx194_1⟩ := at_T50 (Kd.V_reads' HO_1.out).2.2 0 p194 q194
                      cases e194
                      have qi194 : (0 < x1_1.length) = True := eq_true (by omega)
                      (try rw [show ((0 : Int)).toNat = 0 from rfl] at hx194_0)
                      (try rw [show 0 * 2 = 0 from rfl] at hx194_0)
                      (try rw [Addr.add_zero'] at hx194_0)
                      (try rw [show ((0 : Int)).toNat = 0 from rfl] at hx194_1)
                      (try rw [show 0 * 2 = 0 from rfl] at hx194_1)
                      (try rw [Addr.add_zero'] at hx194_1)
                      replace p194 := eq_true p194
                      replace q194 := eq_true q194
                      have p195 : 0 ≤ (0 : Int) := (by omega)
                      have q195 : 0 < (x0_1.length : Int) := of_decide_eq_true (by first | (with_reducible assumption) | assumption)
                      obtain ⟨ad195, e195, hx195_0, hx195_1⟩ := at_T50 (Kd.V_reads' HO_0.out).2.2 0 p195 q195
                      obtain rfl : ad193 = ad195 := (by injection e195)
                      have qi195 : (0 < x0_1.length) = True := eq_true (by omega)
                      (try rw [show ((0 : Int)).toNat = 0 from rfl] at hx195_0)
                      (try rw [show 0 * 2 = 0 from rfl] at hx195_0)
                      (try rw [Addr.add_zero'] at hx195_0)
                      (try rw [show ((0 : Int)).toNat = 0 from rfl] at hx195_1)
                      (try rw [show 0 * 2 = 0 from rfl] at hx195_1)
                      (try rw [Addr.add_zero'] at hx195_1)
                      replace p195 := eq_true p195
                      replace q195 := eq_true q195
                      have p196 : 0 ≤ (0 : Int) := (by omega)
                      have q196 : 0 < (x1_1.length : Int) := of_decide_eq_true (by first | (with_reducible assumption) | assumption)
                      obtain ⟨ad196, e196, hx196_0, hx196_1⟩ := at_T50 (Kd.V_reads' HO_1.out).2.2 0 p196 q196
                      obtain rfl : ad194 = ad196 := (by injection e196)
                      have qi196 : (0 < x1_1.length) = True := eq_true (by omega)
                      (try rw [show ((0 : Int)).toNat = 0 from rfl] at hx196_0)
                      (try rw [show 0 * 2 = 0 from rfl] at hx196_0)
                      (try rw [Addr.add_zero'] at hx196_0)
                      (try rw [show ((0 : Int)).toNat = 0 from rfl] at hx196_1)
                      (try rw [show 0 * 2 = 0 from rfl] at hx196_1)
                      (try rw [Addr.add_zero'] at hx196_1)
                      replace p196 := eq_true p196
                      replace q196 := eq_true q196
                      have p212 : 0 ≤ (0 : Int) := (by omega)
                      have q212 : 0 < (x0_1.length : Int) := of_decide_eq_true (by first | (with_reducible assumption) | assumption)
                      obtain ⟨ad212, e212, hx212_0, hx212_1⟩ := at_T50 (Kd.V_reads' HO_0.out).2.2 0 p212 q212
                      obtain rfl : ad193 = ad212 := (by injection e212)
                      have qi212 : (0 < x0_1.length) = True := eq_true (by omega)
                      (try rw [show ((0 : Int)).toNat = 0 from rfl] at hx212_0)
                      (try rw [show 0 * 2 = 0 from rfl] at hx212_0)
                      (try rw [Addr.add_zero'] at hx212_0)
                      (try rw [show ((0 : Int)).toNat = 0 from rfl] at hx212_1)
                      (try rw [show 0 * 2 = 0 from rfl] at hx212_1)
                      (try rw [Addr.add_zero'] at hx212_1)
                      replace p212 := eq_true p212
                      replace q212 := eq_true q212
                      have p213 : 0 ≤ (0 : Int) := (by omega)
                      have q213 : 0 < (x1_1.length : Int) := of_decide_eq_true (by first | (with_reducible assumption) | assumption)
                      obtain ⟨ad213, e213, hx213_0, hx213_1⟩ := at_T50 (Kd.V_reads' HO_1.out).2.2 0 p213 q213
                      obtain rfl : ad194 = ad213 := (by injection e213)
                      have qi213 : (0 < x1_1.length) = True := eq_true (by omega)
                      (try rw [show ((0 : Int)).toNat = 0 from rfl] at hx213_0)
                      (try rw [show 0 * 2 = 0 from rfl] at hx213_0)
                      (try rw [Addr.add_zero'] at hx213_0)
                      (try rw [show ((0 : Int)).toNat = 0 from rfl] at hx213_1)
                      (try rw [show 0 * 2 = 0 from rfl] at hx213_1)
                      (try rw [Addr.add_zero'] at hx213_1)
                      replace p213 := eq_true p213
                      replace q213 := eq_true q213
                      have q34 : (1 : Int) ≤ ((x1_1.length : Int) : Int) := of_decide_eq_true (by first | (with_reducible assumption) | assumption)
                      obtain ⟨i034, hi034, _, hsz34, _⟩ := info_parts info50
                      have hroom34 : x1_1.length ≤ co33 := (Kd.V_reads' HO_1.out).2.1
                      have hC34 : Kd.F k50 _ _ (some ad194) x1_1.length x1_1 := (Kd.V_at (base := w.heap.size) HO_1.out).2.2
                      have hcut34 := cut_from (P := Try.prog) 22 50 .i64 Try.underlying22 hi034 2 hsz34 (some ad194) x1_1.length co33 1 (by omega) q34
                      have hr34 := Kd.F_cut (m := (1 : Int).toNat) (c := co33) hC34 (by omega) hroom34
                      obtain ⟨A34, hA34⟩ : ∃ A1, A1 = (if co33 = (1 : Int).toNat then (some ad194) else ((some ad194) : Option Addr).map (·.add ((1 : Int).toNat * 2))) := ⟨_, rfl⟩
                      obtain ⟨c34, hc34⟩ : ∃ c1, c1 = co33 - (1 : Int).toNat := ⟨_, rfl⟩
                      have hy34 : y219.length = x1_1.length - (1 : Int).toNat := (by rw [Ny219.out, List.length_drop] <;> omega)
                      rw [show (x1_1).drop (1 : Int).toNat = y219 from Ny219.out.symm] at hr34
                      replace hr34 : Kd.F k50 _ _ A34 y219.length y219 := (by rw [hA34]; exact hr34)
                      rw [← hy34, ← hA34, ← hc34] at hcut34
                      have HO223 := Aside0.mk (show Kd.V k50 50 _ w.heap.size _ (.slice A34 y219.length c34) y219 from Kd.V_mk (by rw [hy34, hc34]; exact Nat.sub_le_sub_right hroom34 _) hr34)
                      have HC223 := Aside0.mk (show y219.length ≤ c34 from by rw [hy34, hc34]; exact Nat.sub_le_sub_right hroom34 _)
                      clear hr34 hC34 hroom34 hi034 hsz34 hc34
                      have KY34 := Aside0.mk hy34
                      have KA34 := Aside0.mk hA34
                      clear hy34 hA34
                      replace q34 := eq_true q34
                      go_wp2
                      repeat (go_quiet (fail); try go_wp2)
                      go_roundg kj2
                      case measure => have := HK1.out; have := HJ2.out; omega
                      case rel => exact ⟨(x0_1), (y219), (x5_1), H', ⟨by have := HK1.out; have := HJ2.out; omega⟩, ⟨by (with_reducible repeat (first | apply Kd.V_alloc | apply Kd.V_drewN | apply Kd.V_drew)); exact HO_0.out⟩, ⟨by (with_reducible repeat (first | apply Kd.V_alloc | apply Kd.V_drewN | apply Kd.V_drew)); exact HO223.out⟩, ⟨by (with_reducible repeat (first | apply Kd.R_alloc | apply Kd.R_drewN | apply Kd.R_drew)); exact HO_5.out⟩, ⟨by repeat (first | (with_reducible first | exact HB.out | apply below_alloc | apply pw_below_drewN | apply below_drew1) | exact HB.out)⟩⟩
                    · rw [if_neg c31] at H
                      exact absurd H (by simp)
              · rw [if_neg c10] at H
                exact absurd H (by simp)
            · rw [if_neg c9] at H
              exact absurd H (by simp)
          · replace c8 := Bool.eq_false_iff.mpr c8
            subst c8
            have H1 : (some x5_1) = some r := by rw [if_neg (show ¬ (false = true) by decide)] at H; exact H
            clear H
            have H := H1
            clear H1
            obtain rfl := Option.some.inj H
            go_wp2
            repeat (go_quiet (fail); try go_wp2)
            go_ret
            exact ⟨_, by first | rfl | (simp [errW_none, errW_some] <;> rfl) | (simp [*, errW_none, errW_some] <;> rfl), by (with_reducible repeat (first | apply Kd.R_alloc | apply Kd.R_drewN | apply Kd.R_drew)); exact HO_5.out, by repeat (first | (with_reducible first | exact HB.out | apply below_alloc | apply pw_below_drewN | apply below_drew1) | exact HB.out)⟩

end Go.Proofs.Ytkpdccegamcppaa.PSpan
