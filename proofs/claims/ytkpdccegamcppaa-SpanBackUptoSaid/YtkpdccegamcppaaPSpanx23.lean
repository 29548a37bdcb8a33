-- Written by a program of this session, over the words of the kit's print.
import Derived.Test.YtkpdccegamcppaaPSpanx0
import Derived.Test.YtkpdccegamcppaaPSpanx22
namespace Go.Proofs.Ytkpdccegamcppaa.PSpan
open Go.RowKit Go.Proofs.YtkpdccegamcppaaW.PrintWords Go.Proofs.YtkpdccegamcppaaW.PrintLast Go.Proofs.YtkpdccegamcppaaW.PrintMore
attribute [local go_sem] max2_int min2_int max_two min_two max_three min_three max_four min_four   -- for this text's walks alone
set_option linter.unusedVariables false
set_option linter.unusedSimpArgs false

/-! ### posternref07_Parse: function 39 -/
mutual
def posternref07_Parse.l0 : Nat → ByteArray → List (S68) → Int → Int → Option ((List (S68)) × Int × Int)
  | 0, _, _, _, _ => none
  | k + 1, x0, x5, x6, x7 => (posternref07_number.f k x0 x7 x6).bind fun bt384 => (if bt384.2.2 = true then (if bt384.1 < (x0.size : Int) then (if 0 ≤ bt384.1 then (if (bt x0 bt384.1) = 45 then (posternref07_Parse.j1 k x0 x5 bt384.1 bt384.2.1 (decide (bt384.2.1 < 1114111)) bt384.2.1 bt384.2.1) else (posternref07_Parse.j1 k x0 x5 bt384.1 bt384.2.1 false bt384.2.1 bt384.2.1)) else (none)) else (posternref07_Parse.j1 k x0 x5 bt384.1 bt384.2.1 false bt384.2.1 bt384.2.1)) else (some ((([] : List (S68))), bt384.1, 72)))
def posternref07_Parse.j1 : Nat → ByteArray → List (S68) → Int → Int → Bool → Int → Int → Option ((List (S68)) × Int × Int)
  | 0, _, _, _, _, _, _, _ => none
  | k + 1, x0, x5, x7, x9, x48, x391000, x391001 => if x48 = true then ((posternref07_number.f k x0 (wrap64 (x7 + 1)) (wrap32 (x9 + 1))).bind fun bt391 => (if bt391.2.2 = true then (posternref07_Parse.j2 k x0 x5 bt391.1 x391000 bt391.2.1) else (some ((([] : List (S68))), bt391.1, 72)))) else (posternref07_Parse.j2 k x0 x5 x7 x391000 x391001)
def posternref07_Parse.j2 : Nat → ByteArray → List (S68) → Int → Int → Int → Option ((List (S68)) × Int × Int)
  | 0, _, _, _, _, _ => none
  | k + 1, x0, x5, x7, x391000, x391001 => if x5.length < 17592186044416 then ((some (x5 ++ [(⟨x391000, x391001⟩ : S68)] : List (S68))).bind fun y397 => (if x7 = (x0.size : Int) then (if (y397.length : Int) > 65536 then (some ((([] : List (S68))), 0, 71)) else (some (y397, 0, 0))) else (if 0 ≤ x7 then (if x7 < (x0.size : Int) then (if (bt x0 x7) = 44 then (if x391001 > 1114109 then (some ((([] : List (S68))), x7, 72)) else (posternref07_Parse.l0 k x0 y397 (wrap32 (x391001 + 2)) (wrap64 (x7 + 1)))) else (some ((([] : List (S68))), x7, 72))) else (none)) else (none)))) else (none)
end
def posternref07_Parse.f (k : Nat) (a0 : ByteArray) : Option ((List (S68)) × Int × Int) := (some (([] : List (S68)) : List (S68))).bind fun y381 => (if a0.toList = ([] : List UInt8) then (some (y381, 0, 0)) else (posternref07_Parse.l0 k a0 y381 0 0))
theorem posternref07_Parse.mono_l : ∀ k, (∀ y0 y1 y2 y3, LeO (posternref07_Parse.l0 k y0 y1 y2 y3) (posternref07_Parse.l0 (k + 1) y0 y1 y2 y3)) ∧ (∀ y0 y1 y2 y3 y4 y5 y6, LeO (posternref07_Parse.j1 k y0 y1 y2 y3 y4 y5 y6) (posternref07_Parse.j1 (k + 1) y0 y1 y2 y3 y4 y5 y6)) ∧ (∀ y0 y1 y2 y3 y4, LeO (posternref07_Parse.j2 k y0 y1 y2 y3 y4) (posternref07_Parse.j2 (k + 1) y0 y1 y2 y3 y4))
  | 0 => ⟨fun _ _ _ _ r h => by simp [posternref07_Parse.l0] at h, fun _ _ _ _ _ _ _ r h => by simp [posternref07_Parse.j1] at h, fun _ _ _ _ _ r h => by simp [posternref07_Parse.j2] at h⟩
  | k + 1 => by
    obtain ⟨ih0, ih1, ih2⟩ := posternref07_Parse.mono_l k
    refine ⟨?_, ?_, ?_⟩
    · intro y0 y1 y2 y3
      unfold posternref07_Parse.l0
      repeat' first
      | (with_reducible exact ih0 _ _ _ _)
      | (with_reducible exact ih1 _ _ _ _ _ _ _)
      | (with_reducible exact ih2 _ _ _ _ _)
      | (with_reducible exact posternref07_number.mono _ _ _ _)
      | (with_reducible exact LeO.refl _)
      | (with_reducible exact LeO.none _)
      | (with_reducible refine LeO.ite ?_ ?_)
      | (with_reducible refine LeO.bind ?_ (fun _ => ?_))
      | exact ih0 _ _ _ _
      | exact ih1 _ _ _ _ _ _ _
      | exact ih2 _ _ _ _ _
      | exact posternref07_number.mono _ _ _ _
      | exact LeO.none _
      | refine LeO.ite ?_ ?_
      | refine LeO.bind ?_ (fun _ => ?_)
    · intro y0 y1 y2 y3 y4 y5 y6
      unfold posternref07_Parse.j1
      repeat' first
      | (with_reducible exact ih0 _ _ _ _)
      | (with_reducible exact ih1 _ _ _ _ _ _ _)
      | (with_reducible exact ih2 _ _ _ _ _)
      | (with_reducible exact posternref07_number.mono _ _ _ _)
      | (with_reducible exact LeO.refl _)
      | (with_reducible exact LeO.none _)
      | (with_reducible refine LeO.ite ?_ ?_)
      | (with_reducible refine LeO.bind ?_ (fun _ => ?_))
      | exact ih0 _ _ _ _
      | exact ih1 _ _ _ _ _ _ _
      | exact ih2 _ _ _ _ _
      | exact posternref07_number.mono _ _ _ _
      | exact LeO.none _
      | refine LeO.ite ?_ ?_
      | refine LeO.bind ?_ (fun _ => ?_)
    · intro y0 y1 y2 y3 y4
      unfold posternref07_Parse.j2
      repeat' first
      | (with_reducible exact ih0 _ _ _ _)
      | (with_reducible exact ih1 _ _ _ _ _ _ _)
      | (with_reducible exact ih2 _ _ _ _ _)
      | (with_reducible exact posternref07_number.mono _ _ _ _)
      | (with_reducible exact LeO.refl _)
      | (with_reducible exact LeO.none _)
      | (with_reducible refine LeO.ite ?_ ?_)
      | (with_reducible refine LeO.bind ?_ (fun _ => ?_))
      | exact ih0 _ _ _ _
      | exact ih1 _ _ _ _ _ _ _
      | exact ih2 _ _ _ _ _
      | exact posternref07_number.mono _ _ _ _
      | exact LeO.none _
      | refine LeO.ite ?_ ?_
      | refine LeO.bind ?_ (fun _ => ?_)
theorem posternref07_Parse.mono : ∀ a0 k, LeO (posternref07_Parse.f k a0) (posternref07_Parse.f (k + 1) a0) := by
  intro a0 k
  obtain ⟨ih0, ih1, ih2⟩ := posternref07_Parse.mono_l k
  unfold posternref07_Parse.f
  repeat' first
      | (with_reducible exact ih0 _ _ _ _)
      | (with_reducible exact ih1 _ _ _ _ _ _ _)
      | (with_reducible exact ih2 _ _ _ _ _)
      | (with_reducible exact posternref07_number.mono _ _ _ _)
      | (with_reducible exact LeO.refl _)
      | (with_reducible exact LeO.none _)
      | (with_reducible refine LeO.ite ?_ ?_)
      | (with_reducible refine LeO.bind ?_ (fun _ => ?_))
      | exact ih0 _ _ _ _
      | exact ih1 _ _ _ _ _ _ _
      | exact ih2 _ _ _ _ _
      | exact posternref07_number.mono _ _ _ _
      | exact LeO.none _
      | refine LeO.ite ?_ ?_
      | refine LeO.bind ?_ (fun _ => ?_)
set_option maxHeartbeats 8000000 in
set_option maxRecDepth 100000 in
theorem posternref07_Parse.calls (k : Nat) (a0 : ByteArray) (r1 : List (S68)) (r2 : Int) (r3 : Int) (w : World) (h : posternref07_Parse.f k a0 = some (r1, r2, r3)) :
    Calls Try.prog 39 #[.string a0] w fun e w' => ∃ v0_ : Value, e = .returned (.tuple #[v0_, .int .i64 r2, .int .i64 r3]) ∧ Kd.R k68 68 w' w.heap.size (fun _ => True) v0_ r1 ∧ Below w.heap.size w w' := by
  have hu68 := Try.underlying68
  have HB := Aside0.mk (Below.refl w.heap.size w)
  have H : ((some (([] : List (S68)) : List (S68))).bind fun y381 => (if a0.toList = ([] : List UInt8) then (some (y381, 0, 0)) else (posternref07_Parse.l0 k a0 y381 0 0))) = some (r1, r2, r3) := h
  clear h
  obtain ⟨y381, hy381⟩ : ∃ y_ : List (S68), y_ = (([] : List (S68))) := ⟨_, rfl⟩
  replace H : (if a0.toList = ([] : List UInt8) then (some (y381, 0, 0)) else (posternref07_Parse.l0 k a0 y381 0 0)) = some (r1, r2, r3) := by first | (rw [hy381]; with_reducible exact H) | (have H2_ := (Option.bind_some _ _).symm.trans H; rw [hy381]; with_reducible exact H2_) | (have H2_ := (Option.bind_some _ _).symm.trans H; with_reducible exact H2_) | with_reducible exact H | (rw [hy381]; exact H) | exact H
  have Ny381 := Aside0.mk hy381
  clear hy381
  by_cases c2 : a0.toList = ([] : List UInt8)
  · rw [if_pos c2] at H
    have c2b0 : (a0.toList == ([] : List UInt8)) = true := beq_iff_eq.mpr c2
    have c2b1 : (a0.toList != ([] : List UInt8)) = false := bne_eq_false_iff_eq.mpr c2
    clear c2
    simp only [Option.some.injEq, Prod.mk.injEq] at H
    obtain ⟨rfl, rfl, rfl⟩ := H
    go_enter Try.func39, Try.ntmps39
    go_wp2_with (first | ((with_reducible refine gate_dst (N := 15) rfl ?_); refine Kd.R_lit k68 _ 68 ?hg (N := 15) ?hd (xs := ([] : List (S68))) (inner := []) (ok := fun _ => True) (okp := fun _ => True) ?hr ?hp (fun _ hk => hk) trivial (Below.refl _ _) (Nat.le_refl _) (by simp) ?_; (case hd => rfl); (case hg => rfl); (case hr => first | (go_simp; done) | (go_simp; rfl)); (case hp => exact (Reps.none _ _)); intro v382 w3 ho4 hb hg_ hnew_; clear hg_ hnew_; (first | rw [← Ny381.out] at ho4 | (simp only [Int.reduceToNat] at ho4; rw [← Ny381.out] at ho4)); have n0_ := Aside0.mk (Kd.R_lower ho4 (below_size (by repeat (first | (with_reducible first | exact HB.out | apply below_alloc | apply pw_below_drewN | apply below_drew1) | exact HB.out)))); have n1_ := Aside0.mk (below_step (by repeat (first | (with_reducible first | exact HB.out | apply below_alloc | apply pw_below_drewN | apply below_drew1) | exact HB.out)) hb); clear HB; have HO383 := n0_; have HB := n1_; clear n0_ n1_; clear hb ho4))
    go_ret3
    exact ⟨_, by first | rfl | (simp [errW_none, errW_some] <;> rfl) | (simp [*, errW_none, errW_some] <;> rfl), by (with_reducible repeat (first | apply Kd.R_alloc | apply Kd.R_drewN | apply Kd.R_drew)); exact HO383.out, by repeat (first | (with_reducible first | exact HB.out | apply below_alloc | apply pw_below_drewN | apply below_drew1) | exact HB.out)⟩
  · rw [if_neg c2] at H
    have c2b0 : (a0.toList == ([] : List UInt8)) = false := beq_eq_false_iff_ne.mpr c2
    have c2b1 : (a0.toList != ([] : List UInt8)) = true := bne_iff_ne.mpr c2
    have H' := Aside0.mk H
    clear H
    go_enter Try.func39, Try.ntmps39
    go_wp2_with (first | ((with_reducible refine gate_dst (N := 15) rfl ?_); refine Kd.R_lit k68 _ 68 ?hg (N := 15) ?hd (xs := ([] : List (S68))) (inner := []) (ok := fun _ => True) (okp := fun _ => True) ?hr ?hp (fun _ hk => hk) trivial (Below.refl _ _) (Nat.le_refl _) (by simp) ?_; (case hd => rfl); (case hg => rfl); (case hr => first | (go_simp; done) | (go_simp; rfl)); (case hp => exact (Reps.none _ _)); intro v382 w5 ho6 hb hg_ hnew_; clear hg_ hnew_; (first | rw [← Ny381.out] at ho6 | (simp only [Int.reduceToNat] at ho6; rw [← Ny381.out] at ho6)); have n0_ := Aside0.mk (Kd.R_lower ho6 (below_size (by repeat (first | (with_reducible first | exact HB.out | apply below_alloc | apply pw_below_drewN | apply below_drew1) | exact HB.out)))); have n1_ := Aside0.mk (below_step (by repeat (first | (with_reducible first | exact HB.out | apply below_alloc | apply pw_below_drewN | apply below_drew1) | exact HB.out)) hb); clear HB; have HO383 := n0_; have HB := n1_; clear n0_ n1_; clear hb ho6))
    go_loopg [5, 6, 7] k (fun kq v5 v6 v7 w' => ∃ (x5_1 : List (S68)) (x6_1 : Int) (x7_1 : Int), v6 = .int .i32 x6_1 ∧ v7 = .int .i64 x7_1 ∧ Aside0 (posternref07_Parse.l0 kq a0 x5_1 x6_1 x7_1 = some (r1, r2, r3)) ∧ Aside0 (kq ≤ k) ∧ Aside0 (Kd.R k68 68 w' w.heap.size (fun _ => True) v5 x5_1) ∧ Aside0 (Below w.heap.size w w'))
    case atStart => exact ⟨(y381), (0), (0), (by first | rfl | (simp; done) | (simp [*]; done)), (by first | rfl | (simp; done) | (simp [*]; done)), H', ⟨Nat.le_refl _⟩, ⟨by (with_reducible repeat (first | apply Kd.R_alloc | apply Kd.R_drewN | apply Kd.R_drew)); exact HO383.out⟩, ⟨by repeat (first | (with_reducible first | exact HB.out | apply below_alloc | apply pw_below_drewN | apply below_drew1) | exact HB.out)⟩⟩
    case round =>
      clear H'
      try clear c2
      try clear c2b0
      try clear c2b1
      try clear p2
      try clear c3
      obtain ⟨x5_1, x6_1, x7_1, rfl, rfl, HA, HK1, HO_5, HB⟩ := hrel
      cases gk with
      | zero => exact absurd HA.out (by simp [posternref07_Parse.l0])
      | succ k1 =>
        have H := HA.out
        clear HA
        simp only [posternref07_Parse.l0] at H
        replace H := Option.bind_eq_some_iff.mp H
        obtain ⟨⟨t384, t385, t386⟩, A70, H⟩ := H
        replace H : (if t386 = true then (if t384 < (a0.size : Int) then (if 0 ≤ t384 then (if (bt a0 t384) = 45 then (posternref07_Parse.j1 k1 a0 x5_1 t384 t385 (decide (t385 < 1114111)) t385 t385) else (posternref07_Parse.j1 k1 a0 x5_1 t384 t385 false t385 t385)) else (none)) else (posternref07_Parse.j1 k1 a0 x5_1 t384 t385 false t385 t385)) else (some ((([] : List (S68))), t384, 72))) = some (r1, r2, r3) := H
        have A7 := Aside0.mk A70
        clear A70
        by_cases c8 : t386 = true
        · subst c8
          have H1 : (if t384 < (a0.size : Int) then (if 0 ≤ t384 then (if (bt a0 t384) = 45 then (posternref07_Parse.j1 k1 a0 x5_1 t384 t385 (decide (t385 < 1114111)) t385 t385) else (posternref07_Parse.j1 k1 a0 x5_1 t384 t385 false t385 t385)) else (none)) else (posternref07_Parse.j1 k1 a0 x5_1 t384 t385 false t385 t385)) = some (r1, r2, r3) := by rw [if_pos rfl] at H; exact H
          clear H
          have H := H1
          clear H1
          have HC9 := Aside0.mk H
          clear H
          go_upto_region 11 with (first | ((with_reducible refine gate_callee (f := 57) rfl ?_); refine goesL_ (some 23) rfl rfl Try.func57 (by kernel_rfl) rfl #[.string a0, .int .i64 x7_1, .int .i32 x6_1] rfl (by (try simp only [List.map_toArray, List.map_cons, List.map_nil]); first | done | rfl | (simp only [List.length_drop, List.length_take]; rfl)) ?_; (with_reducible refine (posternref07_number.calls k1 a0 x7_1 x6_1 t384 t385 true _ A7.out).mono ?_); rintro e w' ⟨rfl, ⟨nd, rfl⟩⟩; refine ⟨_, rfl, ?_⟩; (try (rw [drewN_self wr]; generalize hq_ : World.drewN wr _ = wr; have n0_ : Aside0 (Kd.R k68 68 wr w.heap.size (fun _ => True) u5 x5_1) := ⟨by rw [← hq_]; exact (by (with_reducible repeat (first | apply Kd.R_alloc | apply Kd.R_drewN | apply Kd.R_drew)); exact HO_5.out)⟩; have n1_ : Aside0 (Below w.heap.size w wr) := ⟨by rw [← hq_]; exact (by repeat (first | (with_reducible first | exact HB.out | apply below_alloc | apply pw_below_drewN | apply below_drew1) | exact HB.out))⟩; clear HO_5 HB hq_; have HO_5 := n0_; have HB := n1_; clear n0_ n1_))) | ((with_reducible refine gate_dst (N := 11) rfl ?_); refine box_event ?hg (N := 11) ?hd (cs := #[.int .i32 0, .int .i32 0]) (t := 68) ?hr ?_; (case hd => rfl); (case hg => rfl); (case hr => first | (go_simp; done) | (go_simp; rfl)); intro gb390 hg w10 hbox hb; have n0_ := Aside0.mk (Kd.R_below (Kd.R_elderB (by (with_reducible repeat (first | apply Kd.R_alloc | apply Kd.R_drewN | apply Kd.R_drew)); exact HO_5.out) gb390 (Nat.le_of_eq hg.symm)) hb); have n1_ := Aside0.mk (below_step (by repeat (first | (with_reducible first | exact HB.out | apply below_alloc | apply pw_below_drewN | apply below_drew1) | exact HB.out)) hb); have n2_ := Aside0.mk (hbox); have n3_ := Aside0.mk ((by rw [hg]; exact (below_size (by repeat (first | (with_reducible first | exact HB.out | apply below_alloc | apply pw_below_drewN | apply below_drew1) | exact HB.out))) : w.heap.size ≤ gb390)); have n4_ := Aside0.mk ((by rw [hg]; exact (below_size (by repeat (first | (with_reducible first | exact HB.out | apply below_alloc | apply pw_below_drewN | apply below_drew1) | exact HB.out))) : w.heap.size ≤ gb390)); clear HO_5; clear HB; have HO_5 := n0_; have HB := n1_; have BK390 := n2_; have GW390 := n3_; have GE390 := n4_; clear n0_ n1_ n2_ n3_ n4_; clear hb hbox hg; have hcz11_0 : w10.cell? ⟨gb390, 0, none⟩ = some (.int .i32 0) := (blk_cell BK390.out 0).trans rfl; have hcz11_1 : w10.cell? ⟨gb390, 1, none⟩ = some (.int .i32 0) := (blk_cell BK390.out 1).trans rfl; have hfz11_0 := blk_frozen BK390.out 0; have hfz11_1 := blk_frozen BK390.out 1))
          (try simp only [Act.put, List.setIfInBounds_toArray, List.set_cons_zero, List.set_cons_succ])
          go_cut [48] (fun v48 wc => ∃ (kq : Nat) (x48_8 : Bool), v48 = .bool x48_8 ∧ Aside0 (posternref07_Parse.j1 kq a0 x5_1 t384 t385 x48_8 t385 t385 = some (r1, r2, r3)) ∧ Aside0 (kq ≤ k1) ∧ Aside0 (Kd.R k68 68 wc w.heap.size (fun k_ => k_ ≠ gb390) u5 x5_1) ∧ Aside0 (wc.heap[gb390]? = some (.cells #[.int .i32 t385, .int .i32 t385] 68 (0, 0))) ∧ Aside0 (Below w.heap.size w wc))
          case first =>
            have H := HC9.out
            clear HC9
            by_cases c12 : t384 < (a0.size : Int)
            · rw [if_pos c12] at H
              have c12b0 : decide (t384 < (a0.size : Int)) = true := decide_eq_true c12
              clear c12
              (first | rw [c12b0] | (simp only [i64_w, i32_w]; rw [c12b0]) | skip)
              by_cases c13 : 0 ≤ t384
              · rw [if_pos c13] at H
                have c13b0 : decide (0 ≤ t384) = true := decide_eq_true c13
                clear c13
                by_cases c15 : (bt a0 t384) = 45
                · rw [if_pos c15] at H
                  have c15b0 : ((bt a0 t384) == 45) = true := beq_iff_eq.mpr c15
                  have c15b1 : ((bt a0 t384) != 45) = false := bne_eq_false_iff_eq.mpr c15
                  clear c15
                  have H' := Aside0.mk H
                  clear H
                  have p14 : 0 ≤ (t384 : Int) := of_decide_eq_true (by first | (with_reducible assumption) | assumption)
                  have q14 : t384 < (a0.size : Int) := of_decide_eq_true (by first | (with_reducible assumption) | assumption)
                  have hx14 := bt_at a0 t384
                  replace p14 := eq_true p14
                  replace q14 := eq_true q14
                  go_wp2
                  go_meet
                  case rel => exact ⟨_, (decide (t385 < 1114111)), (by first | rfl | (simp; done) | (simp [*]; done)), H', ⟨by have := HK1.out; first | omega | exact Nat.le_refl _⟩, ⟨by (with_reducible repeat (first | apply Kd.R_alloc | apply Kd.R_drewN | apply Kd.R_drew)); exact Kd.R_mono (Kd.R_far (p := ⟨gb390, 1, none⟩) (Kd.R_far (p := ⟨gb390, 0, none⟩) (Kd.R_mono HO_5.out (fun k_ hk => (⟨hk, hk.2⟩ : _ ∧ k_ ≠ gb390))) (fun _ hk => hk.2) (.int .i32 t385)) (fun _ hk => hk.2) (.int .i32 t385)) (fun _ hk => hk.1.2)⟩, ⟨by (with_reducible repeat (first | refine blk_drewN ?_ _ | refine blk_drew ?_ | refine blk_alloc ?_ _)); refine blk_put (cs := #[.int .i32 t385, .int .i32 0]) ?_ 1 _ rfl; (with_reducible repeat (first | refine blk_drewN ?_ _ | refine blk_drew ?_ | refine blk_alloc ?_ _)); refine blk_put (cs := #[.int .i32 0, .int .i32 0]) ?_ 0 _ rfl; (with_reducible repeat (first | refine blk_drewN ?_ _ | refine blk_drew ?_ | refine blk_alloc ?_ _)); exact BK390.out⟩, ⟨by repeat (first | (with_reducible first | exact HB.out | apply below_alloc | apply pw_below_drewN | apply below_drew1 | refine below_set ?_ GE390.out) | exact HB.out)⟩⟩
                · rw [if_neg c15] at H
                  have c15b0 : ((bt a0 t384) == 45) = false := beq_eq_false_iff_ne.mpr c15
                  have c15b1 : ((bt a0 t384) != 45) = true := bne_iff_ne.mpr c15
                  have H' := Aside0.mk H
                  clear H
                  have p14 : 0 ≤ (t384 : Int) := of_decide_eq_true (by first | (with_reducible assumption) | assumption)
                  have q14 : t384 < (a0.size : Int) := of_decide_eq_true (by first | (with_reducible assumption) | assumption)
                  have hx14 := bt_at a0 t384
                  replace p14 := eq_true p14
                  replace q14 := eq_true q14
                  go_wp2
                  go_meet
                  case rel => exact ⟨_, (false), (by first | rfl | (simp; done) | (simp [*]; done)), H', ⟨by have := HK1.out; first | omega | exact Nat.le_refl _⟩, ⟨by (with_reducible repeat (first | apply Kd.R_alloc | apply Kd.R_drewN | apply Kd.R_drew)); exact Kd.R_mono (Kd.R_far (p := ⟨gb390, 1, none⟩) (Kd.R_far (p := ⟨gb390, 0, none⟩) (Kd.R_mono HO_5.out (fun k_ hk => (⟨hk, hk.2⟩ : _ ∧ k_ ≠ gb390))) (fun _ hk => hk.2) (.int .i32 t385)) (fun _ hk => hk.2) (.int .i32 t385)) (fun _ hk => hk.1.2)⟩, ⟨by (with_reducible repeat (first | refine blk_drewN ?_ _ | refine blk_drew ?_ | refine blk_alloc ?_ _)); refine blk_put (cs := #[.int .i32 t385, .int .i32 0]) ?_ 1 _ rfl; (with_reducible repeat (first | refine blk_drewN ?_ _ | refine blk_drew ?_ | refine blk_alloc ?_ _)); refine blk_put (cs := #[.int .i32 0, .int .i32 0]) ?_ 0 _ rfl; (with_reducible repeat (first | refine blk_drewN ?_ _ | refine blk_drew ?_ | refine blk_alloc ?_ _)); exact BK390.out⟩, ⟨by repeat (first | (with_reducible first | exact HB.out | apply below_alloc | apply pw_below_drewN | apply below_drew1 | refine below_set ?_ GE390.out) | exact HB.out)⟩⟩
              · rw [if_neg c13] at H
                exact absurd H (by simp)
            · rw [if_neg c12] at H
              have c12b0 : decide (t384 < (a0.size : Int)) = false := decide_eq_false c12
              clear c12
              (first | rw [c12b0] | (simp only [i64_w, i32_w]; rw [c12b0]) | skip)
              have H' := Aside0.mk H
              clear H
              go_wp2
              go_meet
              case rel => exact ⟨_, (false), (by first | rfl | (simp; done) | (simp [*]; done)), H', ⟨by have := HK1.out; first | omega | exact Nat.le_refl _⟩, ⟨by (with_reducible repeat (first | apply Kd.R_alloc | apply Kd.R_drewN | apply Kd.R_drew)); exact Kd.R_mono (Kd.R_far (p := ⟨gb390, 1, none⟩) (Kd.R_far (p := ⟨gb390, 0, none⟩) (Kd.R_mono HO_5.out (fun k_ hk => (⟨hk, hk.2⟩ : _ ∧ k_ ≠ gb390))) (fun _ hk => hk.2) (.int .i32 t385)) (fun _ hk => hk.2) (.int .i32 t385)) (fun _ hk => hk.1.2)⟩, ⟨by (with_reducible repeat (first | refine blk_drewN ?_ _ | refine blk_drew ?_ | refine blk_alloc ?_ _)); refine blk_put (cs := #[.int .i32 t385, .int .i32 0]) ?_ 1 _ rfl; (with_reducible repeat (first | refine blk_drewN ?_ _ | refine blk_drew ?_ | refine blk_alloc ?_ _)); refine blk_put (cs := #[.int .i32 0, .int .i32 0]) ?_ 0 _ rfl; (with_reducible repeat (first | refine blk_drewN ?_ _ | refine blk_drew ?_ | refine blk_alloc ?_ _)); exact BK390.out⟩, ⟨by repeat (first | (with_reducible first | exact HB.out | apply below_alloc | apply pw_below_drewN | apply below_drew1 | refine below_set ?_ GE390.out) | exact HB.out)⟩⟩
          case rest =>
            clear HC9
            try clear c1
            try clear p1
            try clear q1
            try clear hx1
            try clear c2
            try clear c2b0
            try clear c2b1
            try clear p2
            try clear c3
            try clear c5
            try clear c8
            try clear c12
            try clear c12b0
            try clear c13
            try clear c13b0
            try clear p14
            try clear q14
            try clear hx14
            try clear c15
            try clear c15b0
            try clear c15b1
            try clear hcz11_0
            try clear hcz11_1
            try clear hfz11_0
            try clear hfz11_1
            try clear p14
            try clear p2
            try clear q14
            obtain ⟨kq, x48_8, rfl, HA, HJ8, HO_5, BK390, HB⟩ := hcut
            cases kq with
            | zero => exact absurd HA.out (by simp [posternref07_Parse.j1])
            | succ kj8 =>
              have H := HA.out
              clear HA
              simp only [posternref07_Parse.j1] at H
              have HC16 := Aside0.mk H
              clear H
              go_upto_if 48 with (fail)
              go_cut [7] (fun v7 wc => ∃ (kq : Nat) (x7_15 : Int) (x391001_15 : Int), v7 = .int .i64 x7_15 ∧ Aside0 (posternref07_Parse.j2 kq a0 x5_1 x7_15 t385 x391001_15 = some (r1, r2, r3)) ∧ Aside0 (kq ≤ kj8) ∧ Aside0 (Kd.R k68 68 wc w.heap.size (fun k_ => k_ ≠ gb390) u5 x5_1) ∧ Aside0 (wc.heap[gb390]? = some (.cells #[.int .i32 t385, .int .i32 x391001_15] 68 (0, 0))) ∧ Aside0 (Below w.heap.size w wc))
              case first =>
                have H := HC16.out
                clear HC16
                by_cases c17 : x48_8 = true
                · subst c17
                  have H1 : ((posternref07_number.f kj8 a0 (wrap64 (t384 + 1)) (wrap32 (t385 + 1))).bind fun bt391 => (if bt391.2.2 = true then (posternref07_Parse.j2 kj8 a0 x5_1 bt391.1 t385 bt391.2.1) else (some ((([] : List (S68))), bt391.1, 72)))) = some (r1, r2, r3) := by rw [if_pos rfl] at H; exact H
                  clear H
                  have H := H1
                  clear H1
                  replace H := Option.bind_eq_some_iff.mp H
                  obtain ⟨⟨t391, t392, t393⟩, A180, H⟩ := H
                  replace H : (if t393 = true then (posternref07_Parse.j2 kj8 a0 x5_1 t391 t385 t392) else (some ((([] : List (S68))), t391, 72))) = some (r1, r2, r3) := H
                  have A18 := Aside0.mk A180
                  clear A180
                  by_cases c19 : t393 = true
                  · subst c19
                    have H1 : (posternref07_Parse.j2 kj8 a0 x5_1 t391 t385 t392) = some (r1, r2, r3) := by rw [if_pos rfl] at H; exact H
                    clear H
                    have H := H1
                    clear H1
                    have H' := Aside0.mk H
                    clear H
                    go_wp2_with (first | ((with_reducible refine gate_callee (f := 57) rfl ?_); refine goesL_ (some 55) rfl rfl Try.func57 (by kernel_rfl) rfl #[.string a0, .int .i64 (wrap64 (t384 + 1)), .int .i32 (wrap32 (t385 + 1))] rfl (by (try simp only [List.map_toArray, List.map_cons, List.map_nil]); first | done | rfl | (simp only [List.length_drop, List.length_take]; rfl)) ?_; (with_reducible refine (posternref07_number.calls kj8 a0 (wrap64 (t384 + 1)) (wrap32 (t385 + 1)) t391 t392 true _ A18.out).mono ?_); rintro e w' ⟨rfl, ⟨nd, rfl⟩⟩; refine ⟨_, rfl, ?_⟩; (try (rw [drewN_self wc]; generalize hq_ : World.drewN wc _ = wc; have n0_ : Aside0 (Kd.R k68 68 wc w.heap.size (fun k_ => k_ ≠ gb390) u5 x5_1) := ⟨by rw [← hq_]; exact (by (with_reducible repeat (first | apply Kd.R_alloc | apply Kd.R_drewN | apply Kd.R_drew)); exact HO_5.out)⟩; have n1_ : Aside0 (wc.heap[gb390]? = some (.cells #[.int .i32 t385, .int .i32 t385] 68 (0, 0))) := ⟨by rw [← hq_]; exact (by (with_reducible repeat (first | refine blk_drewN ?_ _ | refine blk_drew ?_ | refine blk_alloc ?_ _)); exact BK390.out)⟩; have n2_ : Aside0 (Below w.heap.size w wc) := ⟨by rw [← hq_]; exact (by repeat (first | (with_reducible first | exact HB.out | apply below_alloc | apply pw_below_drewN | apply below_drew1 | refine below_set ?_ GE390.out) | exact HB.out))⟩; clear HO_5 BK390 HB hq_; have HO_5 := n0_; have BK390 := n1_; have HB := n2_; clear n0_ n1_ n2_)); have hcz20_0 : wc.cell? ⟨gb390, 0, none⟩ = some (.int .i32 t385) := (blk_cell BK390.out 0).trans rfl; have hcz20_1 : wc.cell? ⟨gb390, 1, none⟩ = some (.int .i32 t385) := (blk_cell BK390.out 1).trans rfl; have hfz20_0 := blk_frozen BK390.out 0; have hfz20_1 := blk_frozen BK390.out 1))
                    go_meet
                    case rel => exact ⟨_, (t391), (t392), (by first | rfl | (simp; done) | (simp [*]; done)), H', ⟨by have := HK1.out; have := HJ8.out; first | omega | exact Nat.le_refl _⟩, ⟨by (with_reducible repeat (first | apply Kd.R_alloc | apply Kd.R_drewN | apply Kd.R_drew)); exact Kd.R_mono (Kd.R_far (p := ⟨gb390, 1, none⟩) (Kd.R_mono HO_5.out (fun k_ hk => (⟨hk, hk⟩ : _ ∧ k_ ≠ gb390))) (fun _ hk => hk.2) (.int .i32 t392)) (fun _ hk => hk.1)⟩, ⟨by (with_reducible repeat (first | refine blk_drewN ?_ _ | refine blk_drew ?_ | refine blk_alloc ?_ _)); refine blk_put (cs := #[.int .i32 t385, .int .i32 t385]) ?_ 1 _ rfl; (with_reducible repeat (first | refine blk_drewN ?_ _ | refine blk_drew ?_ | refine blk_alloc ?_ _)); exact BK390.out⟩, ⟨by repeat (first | (with_reducible first | exact HB.out | apply below_alloc | apply pw_below_drewN | apply below_drew1 | refine below_set ?_ GE390.out) | exact HB.out)⟩⟩
                  · replace c19 := Bool.eq_false_iff.mpr c19
                    subst c19
                    have H1 : (some ((([] : List (S68))), t391, 72)) = some (r1, r2, r3) := by rw [if_neg (show ¬ (false = true) by decide)] at H; exact H
                    clear H
                    have H := H1
                    clear H1
                    obtain ⟨y394, hy394⟩ : ∃ y_ : List (S68), y_ = (([] : List (S68))) := ⟨_, rfl⟩
                    replace H : (some (y394, t391, 72)) = some (r1, r2, r3) := by first | (rw [hy394]; with_reducible exact H) | (have H2_ := (Option.bind_some _ _).symm.trans H; rw [hy394]; with_reducible exact H2_) | (have H2_ := (Option.bind_some _ _).symm.trans H; with_reducible exact H2_) | with_reducible exact H | (rw [hy394]; exact H) | exact H
                    have Ny394 := Aside0.mk hy394
                    clear hy394
                    simp only [Option.some.injEq, Prod.mk.injEq] at H
                    obtain ⟨rfl, rfl, rfl⟩ := H
                    go_wp2_with (first | ((with_reducible refine gate_callee (f := 57) rfl ?_); refine goesL_ (some 55) rfl rfl Try.func57 (by kernel_rfl) rfl #[.string a0, .int .i64 (wrap64 (t384 + 1)), .int .i32 (wrap32 (t385 + 1))] rfl (by (try simp only [List.map_toArray, List.map_cons, List.map_nil]); first | done | rfl | (simp only [List.length_drop, List.length_take]; rfl)) ?_; (with_reducible refine (posternref07_number.calls kj8 a0 (wrap64 (t384 + 1)) (wrap32 (t385 + 1)) t391 t392 false _ A18.out).mono ?_); rintro e w' ⟨rfl, ⟨nd, rfl⟩⟩; refine ⟨_, rfl, ?_⟩) | ((with_reducible refine gate_dst (N := 61) rfl ?_); refine Kd.R_lit k68 _ 68 ?hg (N := 61) ?hd (xs := ([] : List (S68))) (inner := []) (ok := fun _ => True) (okp := fun _ => True) ?hr ?hp (fun _ hk => hk) trivial (Below.refl _ _) (Nat.le_refl _) (by simp) ?_; (case hd => rfl); (case hg => rfl); (case hr => first | (go_simp; done) | (go_simp; rfl)); (case hp => exact (Reps.none _ _)); intro v395 w21 ho22 hb hg_ hnew_; clear hg_ hnew_; (first | rw [← Ny394.out] at ho22 | (simp only [Int.reduceToNat] at ho22; rw [← Ny394.out] at ho22)); have n0_ := Aside0.mk (Kd.R_elder' (by (with_reducible repeat (first | apply Kd.R_alloc | apply Kd.R_drewN | apply Kd.R_drew)); exact HO_5.out) (Kd.R_base ho22) hb); have n1_ := Aside0.mk (Kd.R_lower (Kd.R_newB (Kd.R_new' ho22 (Kd.R_lt (by (with_reducible repeat (first | apply Kd.R_alloc | apply Kd.R_drewN | apply Kd.R_drew)); exact HO_5.out))) (g := gb390) (o := .cells #[.int .i32 t385, .int .i32 t385] 68 (0, 0)) (by (with_reducible repeat (first | refine blk_drewN ?_ _ | refine blk_drew ?_ | refine blk_alloc ?_ _)); exact BK390.out)) (below_size (by repeat (first | (with_reducible first | exact HB.out | apply below_alloc | apply pw_below_drewN | apply below_drew1 | refine below_set ?_ GE390.out) | exact HB.out)))); have n2_ := Aside0.mk (blk_below (g := gb390) (o := .cells #[.int .i32 t385, .int .i32 t385] 68 (0, 0)) (by (with_reducible repeat (first | refine blk_drewN ?_ _ | refine blk_drew ?_ | refine blk_alloc ?_ _)); exact BK390.out) hb); have n3_ := Aside0.mk (below_step (by repeat (first | (with_reducible first | exact HB.out | apply below_alloc | apply pw_below_drewN | apply below_drew1 | refine below_set ?_ GE390.out) | exact HB.out)) hb); clear HO_5; clear BK390; clear HB; have HO_5 := n0_; have HO396 := n1_; have BK390 := n2_; have HB := n3_; clear n0_ n1_ n2_ n3_; clear hb ho22))
                    go_ret3
                    exact ⟨_, by first | rfl | (simp [errW_none, errW_some] <;> rfl) | (simp [*, errW_none, errW_some] <;> rfl), by (with_reducible repeat (first | apply Kd.R_alloc | apply Kd.R_drewN | apply Kd.R_drew)); exact Kd.R_mono HO396.out (fun _ hk => trivial), by repeat (first | (with_reducible first | exact HB.out | apply below_alloc | apply pw_below_drewN | apply below_drew1 | refine below_set ?_ GE390.out) | exact HB.out)⟩
                · replace c17 := Bool.eq_false_iff.mpr c17
                  subst c17
                  have H1 : (posternref07_Parse.j2 kj8 a0 x5_1 t384 t385 t385) = some (r1, r2, r3) := by rw [if_neg (show ¬ (false = true) by decide)] at H; exact H
                  clear H
                  have H := H1
                  clear H1
                  have H' := Aside0.mk H
                  clear H
                  go_wp2
                  go_meet
                  case rel => exact ⟨_, (t384), (t385), (by first | rfl | (simp; done) | (simp [*]; done)), H', ⟨by have := HK1.out; have := HJ8.out; first | omega | exact Nat.le_refl _⟩, ⟨by (with_reducible repeat (first | apply Kd.R_alloc | apply Kd.R_drewN | apply Kd.R_drew)); exact HO_5.out⟩, ⟨by (with_reducible repeat (first | refine blk_drewN ?_ _ | refine blk_drew ?_ | refine blk_alloc ?_ _)); exact BK390.out⟩, ⟨by repeat (first | (with_reducible first | exact HB.out | apply below_alloc | apply pw_below_drewN | apply below_drew1 | refine below_set ?_ GE390.out) | exact HB.out)⟩⟩
              case rest =>
                clear HC16
                try clear c1
                try clear p1
                try clear q1
                try clear hx1
                try clear c2
                try clear c2b0
                try clear c2b1
                try clear p2
                try clear c3
                try clear p3
                try clear c5
                try clear p6
                try clear c8
                try clear c12
                try clear c12b0
                try clear c13
                try clear c13b0
                try clear p14
                try clear q14
                try clear hx14
                try clear c15
                try clear c15b0
                try clear c15b1
                try clear c17
                try clear c19
                try clear hcz11_0
                try clear hcz11_1
                try clear hcz20_0
                try clear hcz20_1
                try clear hfz11_0
                try clear hfz11_1
                try clear hfz20_0
                try clear hfz20_1
                try clear p1
                try clear p14
                try clear p2
                try clear q1
                try clear q14
                obtain ⟨kq, x7_15, x391001_15, rfl, HA, HJ15, HO_5, BK390, HB⟩ := hcut
                cases kq with
                | zero => exact absurd HA.out (by simp [posternref07_Parse.j2])
                | succ kj15 =>
                  have H := HA.out
                  clear HA
                  simp only [posternref07_Parse.j2] at H
                  by_cases c23 : x5_1.length < 17592186044416
                  · rw [if_pos c23] at H
                    have LMc23 := Aside0.mk c23
                    clear c23
                    obtain ⟨y397, hy397⟩ : ∃ y_ : List (S68), y_ = (x5_1 ++ [(⟨t385, x391001_15⟩ : S68)]) := ⟨_, rfl⟩
                    replace H : (if x7_15 = (a0.size : Int) then (if (y397.length : Int) > 65536 then (some ((([] : List (S68))), 0, 71)) else (some (y397, 0, 0))) else (if 0 ≤ x7_15 then (if x7_15 < (a0.size : Int) then (if (bt a0 x7_15) = 44 then (if x391001_15 > 1114109 then (some ((([] : List (S68))), x7_15, 72)) else (posternref07_Parse.l0 kj15 a0 y397 (wrap32 (x391001_15 + 2)) (wrap64 (x7_15 + 1)))) else (some ((([] : List (S68))), x7_15, 72))) else (none)) else (none))) = some (r1, r2, r3) := by first | (rw [hy397]; with_reducible exact H) | (have H2_ := (Option.bind_some _ _).symm.trans H; rw [hy397]; with_reducible exact H2_) | (have H2_ := (Option.bind_some _ _).symm.trans H; with_reducible exact H2_) | with_reducible exact H | (rw [hy397]; exact H) | exact H
                    have Ny397 := Aside0.mk hy397
                    clear hy397
                    by_cases c24 : x7_15 = (a0.size : Int)
                    · rw [if_pos c24] at H
                      have c24b0 : (x7_15 == (a0.size : Int)) = true := beq_iff_eq.mpr c24
                      have c24b1 : (x7_15 != (a0.size : Int)) = false := bne_eq_false_iff_eq.mpr c24
                      clear c24
                      by_cases c25 : (y397.length : Int) > 65536
                      · rw [if_pos c25] at H
                        have c25b0 : decide (65536 < (y397.length : Int)) = true := decide_eq_true c25
                        have c25b1 : decide (65536 < y397.length) = true := decide_eq_true (by omega)
                        clear c25
                        obtain ⟨y400, hy400⟩ : ∃ y_ : List (S68), y_ = (([] : List (S68))) := ⟨_, rfl⟩
                        replace H : (some (y400, 0, 71)) = some (r1, r2, r3) := by first | (rw [hy400]; with_reducible exact H) | (have H2_ := (Option.bind_some _ _).symm.trans H; rw [hy400]; with_reducible exact H2_) | (have H2_ := (Option.bind_some _ _).symm.trans H; with_reducible exact H2_) | with_reducible exact H | (rw [hy400]; exact H) | exact H
                        have Ny400 := Aside0.mk hy400
                        clear hy400
                        simp only [Option.some.injEq, Prod.mk.injEq] at H
                        obtain ⟨rfl, rfl, rfl⟩ := H
                        have hcz26_0 : wc.cell? ⟨gb390, 0, none⟩ = some (.int .i32 t385) := (blk_cell BK390.out 0).trans rfl
                        have hcz26_1 : wc.cell? ⟨gb390, 1, none⟩ = some (.int .i32 x391001_15) := (blk_cell BK390.out 1).trans rfl
                        have hfz26_0 := blk_frozen BK390.out 0
                        have hfz26_1 := blk_frozen BK390.out 1
                        go_wp2_with (first | ((with_reducible refine gate_builtin (b := .append) (xs := #[.tmp 66, .tmp 68]) rfl ?_); at_builtin; refine Kd.R_append k68 (w0 := w) w.heap.size rfl (.tmp 66) (.tmp 68) 23 68 (.agg #[(.int .i32 0), (.int .i32 0)]) 8 rfl Try.underlying23 info68 rfl (by decide) (by omega) u5 x5_1 (⟨t385, x391001_15⟩ : S68) [.int .i32 t385, .int .i32 x391001_15] (fun k_ => k_ ≠ gb390) (fun _ => False) rfl rfl ?aP (fun _ hk => hk.elim) ?aF ?aO ?aB ?aS ?aL ?_; (case aP => exact k68_mkM _ _ _ (⟨t385, x391001_15⟩ : S68)); (case aB => exact (by repeat (first | (with_reducible first | exact HB.out | apply below_alloc | apply pw_below_drewN | apply below_drew1 | refine below_set ?_ GE390.out) | exact HB.out))); (case aF => exact (fun k_ hk => Kd.freshB (g := gb390) (o := .cells #[.int .i32 t385, .int .i32 x391001_15] 68 (0, 0)) (by (with_reducible repeat (first | refine blk_drewN ?_ _ | refine blk_drew ?_ | refine blk_alloc ?_ _)); exact BK390.out) k_ hk)); (case aO => exact (by (with_reducible repeat (first | apply Kd.R_alloc | apply Kd.R_drewN | apply Kd.R_drew)); exact HO_5.out)); (case aS => exact (below_size (by repeat (first | (with_reducible first | exact HB.out | apply below_alloc | apply pw_below_drewN | apply below_drew1 | refine below_set ?_ GE390.out) | exact HB.out)))); (case aL => have := LMc23.out; omega); intro v398 w27 ho hb hg hat; rw [← Ny397.out] at ho; have n0_ := Aside0.mk (blk_grown (g := gb390) (o := .cells #[.int .i32 t385, .int .i32 x391001_15] 68 (0, 0)) (by (with_reducible repeat (first | refine blk_drewN ?_ _ | refine blk_drew ?_ | refine blk_alloc ?_ _)); exact BK390.out) hg (Kd.R_away HO_5.out (fun _ hk => hk))); have n1_ := Aside0.mk (hb); have n2_ := Aside0.mk (ho); clear BK390; clear HB; clear HO_5; have BK390 := n0_; have HB := n1_; have HO399 := n2_; clear n0_ n1_ n2_; clear ho hb hg hat; obtain ⟨Ao28, co28, eo28⟩ := Kd.R_slice HO399.out; subst eo28) | ((with_reducible refine gate_dst (N := 77) rfl ?_); refine Kd.R_lit k68 _ 68 ?hg (N := 77) ?hd (xs := ([] : List (S68))) (inner := []) (ok := fun _ => True) (okp := fun _ => True) ?hr ?hp (fun _ hk => hk) trivial (Below.refl _ _) (Nat.le_refl _) (by simp) ?_; (case hd => rfl); (case hg => rfl); (case hr => first | (go_simp; done) | (go_simp; rfl)); (case hp => exact (Reps.none _ _)); intro v401 w29 ho30 hb hg_ hnew_; clear hg_ hnew_; (first | rw [← Ny400.out] at ho30 | (simp only [Int.reduceToNat] at ho30; rw [← Ny400.out] at ho30)); have n0_ := Aside0.mk (Kd.R_elder' (by (with_reducible repeat (first | apply Kd.R_alloc | apply Kd.R_drewN | apply Kd.R_drew)); exact HO399.out) (Kd.R_base ho30) hb); have n1_ := Aside0.mk (Kd.R_lower (Kd.R_newB (Kd.R_new' ho30 (Kd.R_lt (by (with_reducible repeat (first | apply Kd.R_alloc | apply Kd.R_drewN | apply Kd.R_drew)); exact HO399.out))) (g := gb390) (o := .cells #[.int .i32 t385, .int .i32 x391001_15] 68 (0, 0)) (by (with_reducible repeat (first | refine blk_drewN ?_ _ | refine blk_drew ?_ | refine blk_alloc ?_ _)); exact BK390.out)) (below_size (by repeat (first | (with_reducible first | exact HB.out | apply below_alloc | apply pw_below_drewN | apply below_drew1 | refine below_set ?_ GE390.out) | exact HB.out)))); have n2_ := Aside0.mk (blk_below (g := gb390) (o := .cells #[.int .i32 t385, .int .i32 x391001_15] 68 (0, 0)) (by (with_reducible repeat (first | refine blk_drewN ?_ _ | refine blk_drew ?_ | refine blk_alloc ?_ _)); exact BK390.out) hb); have n3_ := Aside0.mk (below_step (by repeat (first | (with_reducible first | exact HB.out | apply below_alloc | apply pw_below_drewN | apply below_drew1 | refine below_set ?_ GE390.out) | exact HB.out)) hb); clear HO399; clear BK390; clear HB; have HO399 := n0_; have HO402 := n1_; have BK390 := n2_; have HB := n3_; clear n0_ n1_ n2_ n3_; clear hb ho30))
                        go_ret3
                        exact ⟨_, by first | rfl | (simp [errW_none, errW_some] <;> rfl) | (simp [*, errW_none, errW_some] <;> rfl), by (with_reducible repeat (first | apply Kd.R_alloc | apply Kd.R_drewN | apply Kd.R_drew)); exact Kd.R_mono HO402.out (fun _ hk => trivial), by repeat (first | (with_reducible first | exact HB.out | apply below_alloc | apply pw_below_drewN | apply below_drew1 | refine below_set ?_ GE390.out) | exact HB.out)⟩
                      · rw [if_neg c25] at H
                        have c25b0 : decide (65536 < (y397.length : Int)) = false := decide_eq_false c25
                        have c25b1 : decide (65536 < y397.length) = false := decide_eq_false (by omega)
                        clear c25
                        simp only [Option.some.injEq, Prod.mk.injEq] at H
                        obtain ⟨rfl, rfl, rfl⟩ := H
                        have hcz31_0 : wc.cell? ⟨gb390, 0, none⟩ = some (.int .i32 t385) := (blk_cell BK390.out 0).trans rfl
                        have hcz31_1 : wc.cell? ⟨gb390, 1, none⟩ = some (.int .i32 x391001_15) := (blk_cell BK390.out 1).trans rfl
                        have hfz31_0 := blk_frozen BK390.out 0
                        have hfz31_1 := blk_frozen BK390.out 1
                        go_wp2_with (first | ((with_reducible refine gate_builtin (b := .append) (xs := #[.tmp 66, .tmp 68]) rfl ?_); at_builtin; refine Kd.R_append k68 (w0 := w) w.heap.size rfl (.tmp 66) (.tmp 68) 23 68 (.agg #[(.int .i32 0), (.int .i32 0)]) 8 rfl Try.underlying23 info68 rfl (by decide) (by omega) u5 x5_1 (⟨t385, x391001_15⟩ : S68) [.int .i32 t385, .int .i32 x391001_15] (fun k_ => k_ ≠ gb390) (fun _ => False) rfl rfl ?aP (fun _ hk => hk.elim) ?aF ?aO ?aB ?aS ?aL ?_; (case aP => exact k68_mkM _ _ _ (⟨t385, x391001_15⟩ : S68)); (case aB => exact (by repeat (first | (with_reducible first | exact HB.out | apply below_alloc | apply pw_below_drewN | apply below_drew1 | refine below_set ?_ GE390.out) | exact HB.out))); (case aF => exact (fun k_ hk => Kd.freshB (g := gb390) (o := .cells #[.int .i32 t385, .int .i32 x391001_15] 68 (0, 0)) (by (with_reducible repeat (first | refine blk_drewN ?_ _ | refine blk_drew ?_ | refine blk_alloc ?_ _)); exact BK390.out) k_ hk)); (case aO => exact (by (with_reducible repeat (first | apply Kd.R_alloc | apply Kd.R_drewN | apply Kd.R_drew)); exact HO_5.out)); (case aS => exact (below_size (by repeat (first | (with_reducible first | exact HB.out | apply below_alloc | apply pw_below_drewN | apply below_drew1 | refine below_set ?_ GE390.out) | exact HB.out)))); (case aL => have := LMc23.out; omega); intro v398 w32 ho hb hg hat; rw [← Ny397.out] at ho; have n0_ := Aside0.mk (blk_grown (g := gb390) (o := .cells #[.int .i32 t385, .int .i32 x391001_15] 68 (0, 0)) (by (with_reducible repeat (first | refine blk_drewN ?_ _ | refine blk_drew ?_ | refine blk_alloc ?_ _)); exact BK390.out) hg (Kd.R_away HO_5.out (fun _ hk => hk))); have n1_ := Aside0.mk (hb); have n2_ := Aside0.mk (ho); clear BK390; clear HB; clear HO_5; have BK390 := n0_; have HB := n1_; have HO399 := n2_; clear n0_ n1_ n2_; clear ho hb hg hat; obtain ⟨Ao33, co33, eo33⟩ := Kd.R_slice HO399.out; subst eo33))
                        go_ret3
                        exact ⟨_, by first | rfl | (simp [errW_none, errW_some] <;> rfl) | (simp [*, errW_none, errW_some] <;> rfl), by (with_reducible repeat (first | apply Kd.R_alloc | apply Kd.R_drewN | apply Kd.R_drew)); exact Kd.R_mono HO399.out (fun _ hk => trivial), by repeat (first | (with_reducible first | exact HB.out | apply below_alloc | apply pw_below_drewN | apply below_drew1 | refine below_set ?_ GE390.out) | exact HB.out)⟩
                    · rw [if_neg c24] at H
                      have c24b0 : (x7_15 == (a0.size : Int)) = false := beq_eq_false_iff_ne.mpr c24
                      have c24b1 : (x7_15 != (a0.size : Int)) = true := bne_iff_ne.mpr c24
                      by_cases c34 : 0 ≤ x7_15
                      · rw [if_pos c34] at H
                        have c34b0 : decide (0 ≤ x7_15) = true := decide_eq_true c34
                        clear c34
                        by_cases c35 : x7_15 < (a0.size : Int)
                        · rw [if_pos c35] at H
                          have c35b0 : decide (x7_15 < (a0.size : Int)) = true := decide_eq_true c35
                          clear c35
                          by_cases c37 : (bt a0 x7_15) = 44
                          · rw [if_pos c37] at H
                            have c37b0 : ((bt a0 x7_15) == 44) = true := beq_iff_eq.mpr c37
                            have c37b1 : ((bt a0 x7_15) != 44) = false := bne_eq_false_iff_eq.mpr c37
                            clear c37
                            by_cases c38 : x391001_15 > 1114109
                            · rw [if_pos c38] at H
                              have c38b0 : decide (1114109 < x391001_15) = true := decide_eq_true c38
                              clear c38
                              obtain ⟨y403, hy403⟩ : ∃ y_ : List (S68), y_ = (([] : List (S68))) := ⟨_, rfl⟩
                              replace H : (some (y403, x7_15, 72)) = some (r1, r2, r3) := by first | (rw [hy403]; with_reducible exact H) | (have H2_ := (Option.bind_some _ _).symm.trans H; rw [hy403]; with_reducible exact H2_) | (have H2_ := (Option.bind_some _ _).symm.trans H; with_reducible exact H2_) | with_reducible exact H | (rw [hy403]; exact H) | exact H
                              have Ny403 := Aside0.mk hy403
                              clear hy403
                              simp only [Option.some.injEq, Prod.mk.injEq] at H
                              obtain ⟨rfl, rfl, rfl⟩ := H
                              have hcz39_0 : wc.cell? ⟨gb390, 0, none⟩ = some (.int .i32 t385) := (blk_cell BK390.out 0).trans rfl
                              have hcz39_1 : wc.cell? ⟨gb390, 1, none⟩ = some (.int .i32 x391001_15) := (blk_cell BK390.out 1).trans rfl
                              have hfz39_0 := blk_frozen BK390.out 0
                              have hfz39_1 := blk_frozen BK390.out 1
                              go_wp2_with (first | ((with_reducible refine gate_builtin (b := .append) (xs := #[.tmp 66, .tmp 68]) rfl ?_); at_builtin; refine Kd.R_append k68 (w0 := w) w.heap.size rfl (.tmp 66) (.tmp 68) 23 68 (.agg #[(.int .i32 0), (.int .i32 0)]) 8 rfl Try.underlying23 info68 rfl (by decide) (by omega) u5 x5_1 (⟨t385, x391001_15⟩ : S68) [.int .i32 t385, .int .i32 x391001_15] (fun k_ => k_ ≠ gb390) (fun _ => False) rfl rfl ?aP (fun _ hk => hk.elim) ?aF ?aO ?aB ?aS ?aL ?_; (case aP => exact k68_mkM _ _ _ (⟨t385, x391001_15⟩ : S68)); (case aB => exact (by repeat (first | (with_reducible first | exact HB.out | apply below_alloc | apply pw_below_drewN | apply below_drew1 | refine below_set ?_ GE390.out) | exact HB.out))); (case aF => exact (fun k_ hk => Kd.freshB (g := gb390) (o := .cells #[.int .i32 t385, .int .i32 x391001_15] 68 (0, 0)) (by (with_reducible repeat (first | refine blk_drewN ?_ _ | refine blk_drew ?_ | refine blk_alloc ?_ _)); exact BK390.out) k_ hk)); (case aO => exact (by (with_reducible repeat (first | apply Kd.R_alloc | apply Kd.R_drewN | apply Kd.R_drew)); exact HO_5.out)); (case aS => exact (below_size (by repeat (first | (with_reducible first | exact HB.out | apply below_alloc | apply pw_below_drewN | apply below_drew1 | refine below_set ?_ GE390.out) | exact HB.out)))); (case aL => have := LMc23.out; omega); intro v398 w40 ho hb hg hat; rw [← Ny397.out] at ho; have n0_ := Aside0.mk (blk_grown (g := gb390) (o := .cells #[.int .i32 t385, .int .i32 x391001_15] 68 (0, 0)) (by (with_reducible repeat (first | refine blk_drewN ?_ _ | refine blk_drew ?_ | refine blk_alloc ?_ _)); exact BK390.out) hg (Kd.R_away HO_5.out (fun _ hk => hk))); have n1_ := Aside0.mk (hb); have n2_ := Aside0.mk (ho); clear BK390; clear HB; clear HO_5; have BK390 := n0_; have HB := n1_; have HO399 := n2_; clear n0_ n1_ n2_; clear ho hb hg hat; have p36 : 0 ≤ (x7_15 : Int) := of_decide_eq_true (by first | (with_reducible assumption) | assumption); have q36 : x7_15 < (a0.size : Int) := of_decide_eq_true (by first | (with_reducible assumption) | assumption); have hx36 := bt_at a0 x7_15; replace p36 := eq_true p36; replace q36 := eq_true q36; have hcz41_0 : w40.cell? ⟨gb390, 0, none⟩ = some (.int .i32 t385) := (blk_cell BK390.out 0).trans rfl; have hcz41_1 : w40.cell? ⟨gb390, 1, none⟩ = some (.int .i32 x391001_15) := (blk_cell BK390.out 1).trans rfl; have hfz41_0 := blk_frozen BK390.out 0; have hfz41_1 := blk_frozen BK390.out 1) | ((with_reducible refine gate_dst (N := 88) rfl ?_); refine Kd.R_lit k68 _ 68 ?hg (N := 88) ?hd (xs := ([] : List (S68))) (inner := []) (ok := fun _ => True) (okp := fun _ => True) ?hr ?hp (fun _ hk => hk) trivial (Below.refl _ _) (Nat.le_refl _) (by simp) ?_; (case hd => rfl); (case hg => rfl); (case hr => first | (go_simp; done) | (go_simp; rfl)); (case hp => exact (Reps.none _ _)); intro v404 w42 ho43 hb hg_ hnew_; clear hg_ hnew_; (first | rw [← Ny403.out] at ho43 | (simp only [Int.reduceToNat] at ho43; rw [← Ny403.out] at ho43)); have n0_ := Aside0.mk (Kd.R_elder' (by (with_reducible repeat (first | apply Kd.R_alloc | apply Kd.R_drewN | apply Kd.R_drew)); exact HO399.out) (Kd.R_base ho43) hb); have n1_ := Aside0.mk (Kd.R_lower (Kd.R_newB (Kd.R_new' ho43 (Kd.R_lt (by (with_reducible repeat (first | apply Kd.R_alloc | apply Kd.R_drewN | apply Kd.R_drew)); exact HO399.out))) (g := gb390) (o := .cells #[.int .i32 t385, .int .i32 x391001_15] 68 (0, 0)) (by (with_reducible repeat (first | refine blk_drewN ?_ _ | refine blk_drew ?_ | refine blk_alloc ?_ _)); exact BK390.out)) (below_size (by repeat (first | (with_reducible first | exact HB.out | apply below_alloc | apply pw_below_drewN | apply below_drew1 | refine below_set ?_ GE390.out) | exact HB.out)))); have n2_ := Aside0.mk (blk_below (g := gb390) (o := .cells #[.int .i32 t385, .int .i32 x391001_15] 68 (0, 0)) (by (with_reducible repeat (first | refine blk_drewN ?_ _ | refine blk_drew ?_ | refine blk_alloc ?_ _)); exact BK390.out) hb); have n3_ := Aside0.mk (below_step (by repeat (first | (with_reducible first | exact HB.out | apply below_alloc | apply pw_below_drewN | apply below_drew1 | refine below_set ?_ GE390.out) | exact HB.out)) hb); clear HO399; clear BK390; clear HB; have HO399 := n0_; have HO405 := n1_; have BK390 := n2_; have HB := n3_; clear n0_ n1_ n2_ n3_; clear hb ho43))
                              go_ret3
                              exact ⟨_, by first | rfl | (simp [errW_none, errW_some] <;> rfl) | (simp [*, errW_none, errW_some] <;> rfl), by (with_reducible repeat (first | apply Kd.R_alloc | apply Kd.R_drewN | apply Kd.R_drew)); exact Kd.R_mono HO405.out (fun _ hk => trivial), by repeat (first | (with_reducible first | exact HB.out | apply below_alloc | apply pw_below_drewN | apply below_drew1 | refine below_set ?_ GE390.out) | exact HB.out)⟩
                            · rw [if_neg c38] at H
                              have c38b0 : decide (1114109 < x391001_15) = false := decide_eq_false c38
                              clear c38
                              have H' := Aside0.mk H
                              clear H
                              have hcz44_0 : wc.cell? ⟨gb390, 0, none⟩ = some (.int .i32 t385) := (blk_cell BK390.out 0).trans rfl
                              have hcz44_1 : wc.cell? ⟨gb390, 1, none⟩ = some (.int .i32 x391001_15) := (blk_cell BK390.out 1).trans rfl
                              have hfz44_0 := blk_frozen BK390.out 0
                              have hfz44_1 := blk_frozen BK390.out 1
                              go_wp2_with (first | ((with_reducible refine gate_builtin (b := .append) (xs := #[.tmp 66, .tmp 68]) rfl ?_); at_builtin; refine Kd.R_append k68 (w0 := w) w.heap.size rfl (.tmp 66) (.tmp 68) 23 68 (.agg #[(.int .i32 0), (.int .i32 0)]) 8 rfl Try.underlying23 info68 rfl (by decide) (by omega) u5 x5_1 (⟨t385, x391001_15⟩ : S68) [.int .i32 t385, .int .i32 x391001_15] (fun k_ => k_ ≠ gb390) (fun _ => False) rfl rfl ?aP (fun _ hk => hk.elim) ?aF ?aO ?aB ?aS ?aL ?_; (case aP => exact k68_mkM _ _ _ (⟨t385, x391001_15⟩ : S68)); (case aB => exact (by repeat (first | (with_reducible first | exact HB.out | apply below_alloc | apply pw_below_drewN | apply below_drew1 | refine below_set ?_ GE390.out) | exact HB.out))); (case aF => exact (fun k_ hk => Kd.freshB (g := gb390) (o := .cells #[.int .i32 t385, .int .i32 x391001_15] 68 (0, 0)) (by (with_reducible repeat (first | refine blk_drewN ?_ _ | refine blk_drew ?_ | refine blk_alloc ?_ _)); exact BK390.out) k_ hk)); (case aO => exact (by (with_reducible repeat (first | apply Kd.R_alloc | apply Kd.R_drewN | apply Kd.R_drew)); exact HO_5.out)); (case aS => exact (below_size (by repeat (first | (with_reducible first | exact HB.out | apply below_alloc | apply pw_below_drewN | apply below_drew1 | refine below_set ?_ GE390.out) | exact HB.out)))); (case aL => have := LMc23.out; omega); intro v398 w45 ho hb hg hat; rw [← Ny397.out] at ho; have n0_ := Aside0.mk (blk_grown (g := gb390) (o := .cells #[.int .i32 t385, .int .i32 x391001_15] 68 (0, 0)) (by (with_reducible repeat (first | refine blk_drewN ?_ _ | refine blk_drew ?_ | refine blk_alloc ?_ _)); exact BK390.out) hg (Kd.R_away HO_5.out (fun _ hk => hk))); have n1_ := Aside0.mk (hb); have n2_ := Aside0.mk (ho); clear BK390; clear HB; clear HO_5; have BK390 := n0_; have HB := n1_; have HO399 := n2_; clear n0_ n1_ n2_; clear ho hb hg hat; have p36 : 0 ≤ (x7_15 : Int) := of_decide_eq_true (by first | (with_reducible assumption) | assumption); have q36 : x7_15 < (a0.size : Int) := of_decide_eq_true (by first | (with_reducible assumption) | assumption); have hx36 := bt_at a0 x7_15; replace p36 := eq_true p36; replace q36 := eq_true q36; have hcz46_0 : w45.cell? ⟨gb390, 0, none⟩ = some (.int .i32 t385) := (blk_cell BK390.out 0).trans rfl; have hcz46_1 : w45.cell? ⟨gb390, 1, none⟩ = some (.int .i32 x391001_15) := (blk_cell BK390.out 1).trans rfl; have hfz46_0 := blk_frozen BK390.out 0; have hfz46_1 := blk_frozen BK390.out 1))
                              go_roundg kj15
                              case measure => have := HK1.out; have := HJ8.out; have := HJ15.out; omega
                              case rel => exact ⟨(y397), (wrap32 (x391001_15 + 2)), (wrap64 (x7_15 + 1)), (by first | rfl | (simp; done) | (simp [*]; done)), (by first | rfl | (simp; done) | (simp [*]; done)), H', ⟨by have := HK1.out; have := HJ8.out; have := HJ15.out; omega⟩, ⟨by (with_reducible repeat (first | apply Kd.R_alloc | apply Kd.R_drewN | apply Kd.R_drew)); exact Kd.R_mono HO399.out (fun _ hk => trivial)⟩, ⟨by repeat (first | (with_reducible first | exact HB.out | apply below_alloc | apply pw_below_drewN | apply below_drew1 | refine below_set ?_ GE390.out) | exact HB.out)⟩⟩
                          · rw [if_neg c37] at H
                            have c37b0 : ((bt a0 x7_15) == 44) = false := beq_eq_false_iff_ne.mpr c37
                            have c37b1 : ((bt a0 x7_15) != 44) = true := bne_iff_ne.mpr c37
                            obtain ⟨y406, hy406⟩ : ∃ y_ : List (S68), y_ = (([] : List (S68))) := ⟨_, rfl⟩
                            replace H : (some (y406, x7_15, 72)) = some (r1, r2, r3) := by first | (rw [hy406]; with_reducible exact H) | (have H2_ := (Option.bind_some _ _).symm.trans H; rw [hy406]; with_reducible exact H2_) | (have H2_ := (Option.bind_some _ _).symm.trans H; with_reducible exact H2_) | with_reducible exact H | (rw [hy406]; exact H) | exact H
                            have Ny406 := Aside0.mk hy406
                            clear hy406
                            simp only [Option.some.injEq, Prod.mk.injEq] at H
                            obtain ⟨rfl, rfl, rfl⟩ := H
                            have hcz47_0 : wc.cell? ⟨gb390, 0, none⟩ = some (.int .i32 t385) := (blk_cell BK390.out 0).trans rfl
                            have hcz47_1 : wc.cell? ⟨gb390, 1, none⟩ = some (.int .i32 x391001_15) := (blk_cell BK390.out 1).trans rfl
                            have hfz47_0 := blk_frozen BK390.out 0
                            have hfz47_1 := blk_frozen BK390.out 1
                            go_wp2_with (first | ((with_reducible refine gate_builtin (b := .append) (xs := #[.tmp 66, .tmp 68]) rfl ?_); at_builtin; refine Kd.R_append k68 (w0 := w) w.heap.size rfl (.tmp 66) (.tmp 68) 23 68 (.agg #[(.int .i32 0), (.int .i32 0)]) 8 rfl Try.underlying23 info68 rfl (by decide) (by omega) u5 x5_1 (⟨t385, x391001_15⟩ : S68) [.int .i32 t385, .int .i32 x391001_15] (fun k_ => k_ ≠ gb390) (fun _ => False) rfl rfl ?aP (fun _ hk => hk.elim) ?aF ?aO ?aB ?aS ?aL ?_; (case aP => exact k68_mkM _ _ _ (⟨t385, x391001_15⟩ : S68)); (case aB => exact (by repeat (first | (with_reducible first | exact HB.out | apply below_alloc | apply pw_below_drewN | apply below_drew1 | refine below_set ?_ GE390.out) | exact HB.out))); (case aF => exact (fun k_ hk => Kd.freshB (g := gb390) (o := .cells #[.int .i32 t385, .int .i32 x391001_15] 68 (0, 0)) (by (with_reducible repeat (first | refine blk_drewN ?_ _ | refine blk_drew ?_ | refine blk_alloc ?_ _)); exact BK390.out) k_ hk)); (case aO => exact (by (with_reducible repeat (first | apply Kd.R_alloc | apply Kd.R_drewN | apply Kd.R_drew)); exact HO_5.out)); (case aS => exact (below_size (by repeat (first | (with_reducible first | exact HB.out | apply below_alloc | apply pw_below_drewN | apply below_drew1 | refine below_set ?_ GE390.out) | exact HB.out)))); (case aL => have := LMc23.out; omega); intro v398 w48 ho hb hg hat; rw [← Ny397.out] at ho; have n0_ := Aside0.mk (blk_grown (g := gb390) (o := .cells #[.int .i32 t385, .int .i32 x391001_15] 68 (0, 0)) (by (with_reducible repeat (first | refine blk_drewN ?_ _ | refine blk_drew ?_ | refine blk_alloc ?_ _)); exact BK390.out) hg (Kd.R_away HO_5.out (fun _ hk => hk))); have n1_ := Aside0.mk (hb); have n2_ := Aside0.mk (ho); clear BK390; clear HB; clear HO_5; have BK390 := n0_; have HB := n1_; have HO399 := n2_; clear n0_ n1_ n2_; clear ho hb hg hat; have p36 : 0 ≤ (x7_15 : Int) := of_decide_eq_true (by first | (with_reducible assumption) | assumption); have q36 : x7_15 < (a0.size : Int) := of_decide_eq_true (by first | (with_reducible assumption) | assumption); have hx36 := bt_at a0 x7_15; replace p36 := eq_true p36; replace q36 := eq_true q36) | ((with_reducible refine gate_dst (N := 88) rfl ?_); refine Kd.R_lit k68 _ 68 ?hg (N := 88) ?hd (xs := ([] : List (S68))) (inner := []) (ok := fun _ => True) (okp := fun _ => True) ?hr ?hp (fun _ hk => hk) trivial (Below.refl _ _) (Nat.le_refl _) (by simp) ?_; (case hd => rfl); (case hg => rfl); (case hr => first | (go_simp; done) | (go_simp; rfl)); (case hp => exact (Reps.none _ _)); intro v407 w49 ho50 hb hg_ hnew_; clear hg_ hnew_; (first | rw [← Ny406.out] at ho50 | (simp only [Int.reduceToNat] at ho50; rw [← Ny406.out] at ho50)); have n0_ := Aside0.mk (Kd.R_elder' (by (with_reducible repeat (first | apply Kd.R_alloc | apply Kd.R_drewN | apply Kd.R_drew)); exact HO399.out) (Kd.R_base ho50) hb); have n1_ := Aside0.mk (Kd.R_lower (Kd.R_newB (Kd.R_new' ho50 (Kd.R_lt (by (with_reducible repeat (first | apply Kd.R_alloc | apply Kd.R_drewN | apply Kd.R_drew)); exact HO399.out))) (g := gb390) (o := .cells #[.int .i32 t385, .int .i32 x391001_15] 68 (0, 0)) (by (with_reducible repeat (first | refine blk_drewN ?_ _ | refine blk_drew ?_ | refine blk_alloc ?_ _)); exact BK390.out)) (below_size (by repeat (first | (with_reducible first | exact HB.out | apply below_alloc | apply pw_below_drewN | apply below_drew1 | refine below_set ?_ GE390.out) | exact HB.out)))); have n2_ := Aside0.mk (blk_below (g := gb390) (o := .cells #[.int .i32 t385, .int .i32 x391001_15] 68 (0, 0)) (by (with_reducible repeat (first | refine blk_drewN ?_ _ | refine blk_drew ?_ | refine blk_alloc ?_ _)); exact BK390.out) hb); have n3_ := Aside0.mk (below_step (by repeat (first | (with_reducible first | exact HB.out | apply below_alloc | apply pw_below_drewN | apply below_drew1 | refine below_set ?_ GE390.out) | exact HB.out)) hb); clear HO399; clear BK390; clear HB; have HO399 := n0_; have HO408 := n1_; have BK390 := n2_; have HB := n3_; clear n0_ n1_ n2_ n3_; clear hb ho50))
                            go_ret3
                            exact ⟨_, by first | rfl | (simp [errW_none, errW_some] <;> rfl) | (simp [*, errW_none, errW_some] <;> rfl), by (with_reducible repeat (first | apply Kd.R_alloc | apply Kd.R_drewN | apply Kd.R_drew)); exact Kd.R_mono HO408.out (fun _ hk => trivial), by repeat (first | (with_reducible first | exact HB.out | apply below_alloc | apply pw_below_drewN | apply below_drew1 | refine below_set ?_ GE390.out) | exact HB.out)⟩
                        · rw [if_neg c35] at H
                          exact absurd H (by simp)
                      · rw [if_neg c34] at H
                        exact absurd H (by simp)
                  · rw [if_neg c23] at H
                    exact absurd H (by simp)
        · replace c8 := Bool.eq_false_iff.mpr c8
          subst c8
          have H1 : (some ((([] : List (S68))), t384, 72)) = some (r1, r2, r3) := by rw [if_neg (show ¬ (false = true) by decide)] at H; exact H
          clear H
          have H := H1
          clear H1
          obtain ⟨y387, hy387⟩ : ∃ y_ : List (S68), y_ = (([] : List (S68))) := ⟨_, rfl⟩
          replace H : (some (y387, t384, 72)) = some (r1, r2, r3) := by first | (rw [hy387]; with_reducible exact H) | (have H2_ := (Option.bind_some _ _).symm.trans H; rw [hy387]; with_reducible exact H2_) | (have H2_ := (Option.bind_some _ _).symm.trans H; with_reducible exact H2_) | with_reducible exact H | (rw [hy387]; exact H) | exact H
          have Ny387 := Aside0.mk hy387
          clear hy387
          simp only [Option.some.injEq, Prod.mk.injEq] at H
          obtain ⟨rfl, rfl, rfl⟩ := H
          go_wp2_with (first | ((with_reducible refine gate_callee (f := 57) rfl ?_); refine goesL_ (some 23) rfl rfl Try.func57 (by kernel_rfl) rfl #[.string a0, .int .i64 x7_1, .int .i32 x6_1] rfl (by (try simp only [List.map_toArray, List.map_cons, List.map_nil]); first | done | rfl | (simp only [List.length_drop, List.length_take]; rfl)) ?_; (with_reducible refine (posternref07_number.calls k1 a0 x7_1 x6_1 t384 t385 false _ A7.out).mono ?_); rintro e w' ⟨rfl, ⟨nd, rfl⟩⟩; refine ⟨_, rfl, ?_⟩) | ((with_reducible refine gate_dst (N := 29) rfl ?_); refine Kd.R_lit k68 _ 68 ?hg (N := 29) ?hd (xs := ([] : List (S68))) (inner := []) (ok := fun _ => True) (okp := fun _ => True) ?hr ?hp (fun _ hk => hk) trivial (Below.refl _ _) (Nat.le_refl _) (by simp) ?_; (case hd => rfl); (case hg => rfl); (case hr => first | (go_simp; done) | (go_simp; rfl)); (case hp => exact (Reps.none _ _)); intro v388 w51 ho52 hb hg_ hnew_; clear hg_ hnew_; (first | rw [← Ny387.out] at ho52 | (simp only [Int.reduceToNat] at ho52; rw [← Ny387.out] at ho52)); have n0_ := Aside0.mk (Kd.R_elder' (by (with_reducible repeat (first | apply Kd.R_alloc | apply Kd.R_drewN | apply Kd.R_drew)); exact HO_5.out) (Kd.R_base ho52) hb); have n1_ := Aside0.mk (Kd.R_lower (Kd.R_new' ho52 (Kd.R_lt (by (with_reducible repeat (first | apply Kd.R_alloc | apply Kd.R_drewN | apply Kd.R_drew)); exact HO_5.out))) (below_size (by repeat (first | (with_reducible first | exact HB.out | apply below_alloc | apply pw_below_drewN | apply below_drew1) | exact HB.out)))); have n2_ := Aside0.mk (below_step (by repeat (first | (with_reducible first | exact HB.out | apply below_alloc | apply pw_below_drewN | apply below_drew1) | exact HB.out)) hb); clear HO_5; clear HB; have HO_5 := n0_; have HO389 := n1_; have HB := n2_; clear n0_ n1_ n2_; clear hb ho52))
          go_ret3
          exact ⟨_, by first | rfl | (simp [errW_none, errW_some] <;> rfl) | (simp [*, errW_none, errW_some] <;> rfl), by (with_reducible repeat (first | apply Kd.R_alloc | apply Kd.R_drewN | apply Kd.R_drew)); exact Kd.R_mono HO389.out (fun _ hk => trivial), by repeat (first | (with_reducible first | exact HB.out | apply below_alloc | apply pw_below_drewN | apply below_drew1) | exact HB.out)⟩

/-! ### posternref07_Hex: function 58 -/
def posternref07_Hex.l0 : Nat → Int → ByteArray → Int → Option (ByteArray)
  | 0, _, _, _ => none
  | k + 1, x0, x3, x4 => if x4 < 4 then (if 0 ≤ (Int.tmod x0 16) then (if (Int.tmod x0 16) ≤ (wrap32 ((Int.tmod x0 16) + 1)) then (if (wrap32 ((Int.tmod x0 16) + 1)) ≤ 16 then (if ((⟨#[48, 49, 50, 51, 52, 53, 54, 55, 56, 57, 65, 66, 67, 68, 69, 70]⟩ : ByteArray).extract ((Int.tmod x0 16) : Int).toNat ((wrap32 ((Int.tmod x0 16) + 1)) : Int).toNat).size + x3.size ≤ 9223372036854775807 then (posternref07_Hex.l0 k (wrap32 (Int.tdiv x0 16)) (((⟨#[48, 49, 50, 51, 52, 53, 54, 55, 56, 57, 65, 66, 67, 68, 69, 70]⟩ : ByteArray).extract ((Int.tmod x0 16) : Int).toNat ((wrap32 ((Int.tmod x0 16) + 1)) : Int).toNat) ++ x3) (wrap64 (x4 + 1))) else (none)) else (none)) else (none)) else (none)) else (if x0 > 0 then (if 0 ≤ (Int.tmod x0 16) then (if (Int.tmod x0 16) ≤ (wrap32 ((Int.tmod x0 16) + 1)) then (if (wrap32 ((Int.tmod x0 16) + 1)) ≤ 16 then (if ((⟨#[48, 49, 50, 51, 52, 53, 54, 55, 56, 57, 65, 66, 67, 68, 69, 70]⟩ : ByteArray).extract ((Int.tmod x0 16) : Int).toNat ((wrap32 ((Int.tmod x0 16) + 1)) : Int).toNat).size + x3.size ≤ 9223372036854775807 then (posternref07_Hex.l0 k (wrap32 (Int.tdiv x0 16)) (((⟨#[48, 49, 50, 51, 52, 53, 54, 55, 56, 57, 65, 66, 67, 68, 69, 70]⟩ : ByteArray).extract ((Int.tmod x0 16) : Int).toNat ((wrap32 ((Int.tmod x0 16) + 1)) : Int).toNat) ++ x3) (wrap64 (x4 + 1))) else (none)) else (none)) else (none)) else (none)) else (some x3))
def posternref07_Hex.f (k : Nat) (a0 : Int) : Option (ByteArray) := posternref07_Hex.l0 k a0 (⟨#[]⟩ : ByteArray) 0
theorem posternref07_Hex.mono_l : ∀ k, (∀ y0 y1 y2, LeO (posternref07_Hex.l0 k y0 y1 y2) (posternref07_Hex.l0 (k + 1) y0 y1 y2))
  | 0 => fun _ _ _ r h => by simp [posternref07_Hex.l0] at h
  | k + 1 => by
    have ih0 := posternref07_Hex.mono_l k
    · intro y0 y1 y2
      unfold posternref07_Hex.l0
      repeat' first
      | (with_reducible exact ih0 _ _ _)
      | (with_reducible exact LeO.refl _)
      | (with_reducible exact LeO.none _)
      | (with_reducible refine LeO.ite ?_ ?_)
      | (with_reducible refine LeO.bind ?_ (fun _ => ?_))
      | exact ih0 _ _ _
      | exact LeO.none _
      | refine LeO.ite ?_ ?_
      | refine LeO.bind ?_ (fun _ => ?_)
theorem posternref07_Hex.mono : ∀ a0 k, LeO (posternref07_Hex.f k a0) (posternref07_Hex.f (k + 1) a0) := by
  intro a0 k
  have ih0 := posternref07_Hex.mono_l k
  unfold posternref07_Hex.f
  repeat' first
      | (with_reducible exact ih0 _ _ _)
      | (with_reducible exact LeO.refl _)
      | (with_reducible exact LeO.none _)
      | (with_reducible refine LeO.ite ?_ ?_)
      | (with_reducible refine LeO.bind ?_ (fun _ => ?_))
      | exact ih0 _ _ _
      | exact LeO.none _
      | refine LeO.ite ?_ ?_
      | refine LeO.bind ?_ (fun _ => ?_)
set_option maxHeartbeats 8000000 in
set_option maxRecDepth 100000 in
theorem posternref07_Hex.calls (k : Nat) (a0 : Int) (r : ByteArray) (w : World) (h : posternref07_Hex.f k a0 = some r) :
    Calls Try.prog 58 #[.int .i32 a0] w fun e w' => e = .returned (.string r) ∧ Drawn0 w w' := by
  have H : (posternref07_Hex.l0 k a0 (⟨#[]⟩ : ByteArray) 0) = some r := h
  clear h
  have H' := Aside0.mk H
  clear H
  go_enter Try.func58, Try.ntmps58
  go_wp2
  go_loopg [0, 3, 4] k (fun kq v0 v3 v4 w' => ∃ (x0_1 : Int) (x3_1 : ByteArray) (x4_1 : Int), v0 = .int .i32 x0_1 ∧ v3 = .string x3_1 ∧ v4 = .int .i64 x4_1 ∧ Aside0 (posternref07_Hex.l0 kq x0_1 x3_1 x4_1 = some r) ∧ Aside0 (kq ≤ k) ∧ Drawn0 w w')
  case atStart => exact ⟨(a0), ((⟨#[]⟩ : ByteArray)), (0), (by first | rfl | (simp; done) | (simp [*]; done)), (by first | rfl | (simp; done) | (simp [*]; done)), (by first | rfl | (simp; done) | (simp [*]; done)), H', ⟨Nat.le_refl _⟩, by repeat (first | exact Drawn0.refl _ | apply Drawn0.step)⟩
  case round =>
    clear H'
    obtain ⟨x0_1, x3_1, x4_1, rfl, rfl, rfl, HA, HK1, ⟨m1, rfl⟩⟩ := hrel
    cases gk with
    | zero => exact absurd HA.out (by simp [posternref07_Hex.l0])
    | succ k1 =>
      have H := HA.out
      clear HA
      simp only [posternref07_Hex.l0] at H
      by_cases c2 : x4_1 < 4
      · rw [if_pos c2] at H
        have c2b0 : decide (x4_1 < 4) = true := decide_eq_true c2
        clear c2
        obtain ⟨ji3, hji3⟩ : ∃ j_ : Int, (Int.tmod x0_1 16) = j_ := ⟨_, rfl⟩
        replace H : (if 0 ≤ (ji3) then (if (ji3) ≤ (wrap32 ((ji3) + 1)) then (if (wrap32 ((ji3) + 1)) ≤ 16 then (if ((⟨#[48, 49, 50, 51, 52, 53, 54, 55, 56, 57, 65, 66, 67, 68, 69, 70]⟩ : ByteArray).extract ((ji3) : Int).toNat ((wrap32 ((ji3) + 1)) : Int).toNat).size + x3_1.size ≤ 9223372036854775807 then (posternref07_Hex.l0 k1 (wrap32 (Int.tdiv x0_1 16)) (((⟨#[48, 49, 50, 51, 52, 53, 54, 55, 56, 57, 65, 66, 67, 68, 69, 70]⟩ : ByteArray).extract ((ji3) : Int).toNat ((wrap32 ((ji3) + 1)) : Int).toNat) ++ x3_1) (wrap64 (x4_1 + 1))) else (none)) else (none)) else (none)) else (none)) = some r := by first | (rw [hji3] at H; exact H) | (simp only [hji3] at H ⊢; exact H)
        by_cases c4 : 0 ≤ (ji3)
        · rw [if_pos c4] at H
          have c4b0 := eq_true c4
          have c4b1 : decide (0 ≤ (ji3)) = true := decide_eq_true c4
          clear c4
          by_cases c5 : (ji3) ≤ (wrap32 ((ji3) + 1))
          · rw [if_pos c5] at H
            have c5b0 := eq_true c5
            have c5b1 : decide ((ji3) ≤ (wrap32 ((ji3) + 1))) = true := decide_eq_true c5
            by_cases c6 : (wrap32 ((ji3) + 1)) ≤ 16
            · rw [if_pos c6] at H
              have c6b0 := eq_true c6
              have c6b1 : decide ((wrap32 ((ji3) + 1)) ≤ 16) = true := decide_eq_true c6
              by_cases c7 : ((⟨#[48, 49, 50, 51, 52, 53, 54, 55, 56, 57, 65, 66, 67, 68, 69, 70]⟩ : ByteArray).extract ((ji3) : Int).toNat ((wrap32 ((ji3) + 1)) : Int).toNat).size + x3_1.size ≤ 9223372036854775807
              · rw [if_pos c7] at H
                have c7b0 := eq_true c7
                have c7b1 : decide (((⟨#[48, 49, 50, 51, 52, 53, 54, 55, 56, 57, 65, 66, 67, 68, 69, 70]⟩ : ByteArray).extract ((ji3) : Int).toNat ((wrap32 ((ji3) + 1)) : Int).toNat).size + x3_1.size ≤ 9223372036854775807) = true := decide_eq_true c7
                try have c7b2 : (9223372036854775807 < ((⟨#[48, 49, 50, 51, 52, 53, 54, 55, 56, 57, 65, 66, 67, 68, 69, 70]⟩ : ByteArray).extract ((ji3) : Int).toNat ((wrap32 ((ji3) + 1)) : Int).toNat).size + x3_1.size) = False := eq_false (Nat.not_lt.2 c7)
                have H' := Aside0.mk H
                clear H
                go_wp2
                go_roundg k1
                case measure => have := HK1.out; omega
                case rel => exact ⟨(wrap32 (Int.tdiv x0_1 16)), (((⟨#[48, 49, 50, 51, 52, 53, 54, 55, 56, 57, 65, 66, 67, 68, 69, 70]⟩ : ByteArray).extract ((ji3) : Int).toNat ((wrap32 ((ji3) + 1)) : Int).toNat) ++ x3_1), (wrap64 (x4_1 + 1)), (by first | rfl | (simp; done) | (simp [*]; done)), (by first | rfl | (simp; done) | (simp only [← hji3] <;> (first | rfl | simp)) | (simp [*]; done)), (by first | rfl | (simp; done) | (simp [*]; done)), H', ⟨by have := HK1.out; omega⟩, by repeat (first | exact Drawn0.refl _ | apply Drawn0.step)⟩
              · rw [if_neg c7] at H
                exact absurd H (by simp)
            · rw [if_neg c6] at H
              exact absurd H (by simp)
          · rw [if_neg c5] at H
            exact absurd H (by simp)
        · rw [if_neg c4] at H
          exact absurd H (by simp)
      · rw [if_neg c2] at H
        have c2b0 : decide (x4_1 < 4) = false := decide_eq_false c2
        clear c2
        by_cases c8 : x0_1 > 0
        · rw [if_pos c8] at H
          have c8b0 : decide (0 < x0_1) = true := decide_eq_true c8
          clear c8
          obtain ⟨ji9, hji9⟩ : ∃ j_ : Int, (Int.tmod x0_1 16) = j_ := ⟨_, rfl⟩
          replace H : (if 0 ≤ (ji9) then (if (ji9) ≤ (wrap32 ((ji9) + 1)) then (if (wrap32 ((ji9) + 1)) ≤ 16 then (if ((⟨#[48, 49, 50, 51, 52, 53, 54, 55, 56, 57, 65, 66, 67, 68, 69, 70]⟩ : ByteArray).extract ((ji9) : Int).toNat ((wrap32 ((ji9) + 1)) : Int).toNat).size + x3_1.size ≤ 9223372036854775807 then (posternref07_Hex.l0 k1 (wrap32 (Int.tdiv x0_1 16)) (((⟨#[48, 49, 50, 51, 52, 53, 54, 55, 56, 57, 65, 66, 67, 68, 69, 70]⟩ : ByteArray).extract ((ji9) : Int).toNat ((wrap32 ((ji9) + 1)) : Int).toNat) ++ x3_1) (wrap64 (x4_1 + 1))) else (none)) else (none)) else (none)) else (none)) = some r := by first | (rw [hji9] at H; exact H) | (simp only [hji9] at H ⊢; exact H)
          by_cases c10 : 0 ≤ (ji9)
          · rw [if_pos c10] at H
            have c10b0 := eq_true c10
            have c10b1 : decide (0 ≤ (ji9)) = true := decide_eq_true c10
            clear c10
            by_cases c11 : (ji9) ≤ (wrap32 ((ji9) + 1))
            · rw [if_pos c11] at H
              have c11b0 := eq_true c11
              have c11b1 : decide ((ji9) ≤ (wrap32 ((ji9) + 1))) = true := decide_eq_true c11
              by_cases c12 : (wrap32 ((ji9) + 1)) ≤ 16
              · rw [if_pos c12] at H
                have c12b0 := eq_true c12
                have c12b1 : decide ((wrap32 ((ji9) + 1)) ≤ 16) = true := decide_eq_true c12
                by_cases c13 : ((⟨#[48, 49, 50, 51, 52, 53, 54, 55, 56, 57, 65, 66, 67, 68, 69, 70]⟩ : ByteArray).extract ((ji9) : Int).toNat ((wrap32 ((ji9) + 1)) : Int).toNat).size + x3_1.size ≤ 9223372036854775807
                · rw [if_pos c13] at H
                  have c13b0 := eq_true c13
                  have c13b1 : decide (((⟨#[48, 49, 50, 51, 52, 53, 54, 55, 56, 57, 65, 66, 67, 68, 69, 70]⟩ : ByteArray).extract ((ji9) : Int).toNat ((wrap32 ((ji9) + 1)) : Int).toNat).size + x3_1.size ≤ 9223372036854775807) = true := decide_eq_true c13
                  try have c13b2 : (9223372036854775807 < ((⟨#[48, 49, 50, 51, 52, 53, 54, 55, 56, 57, 65, 66, 67, 68, 69, 70]⟩ : ByteArray).extract ((ji9) : Int).toNat ((wrap32 ((ji9) + 1)) : Int).toNat).size + x3_1.size) = False := eq_false (Nat.not_lt.2 c13)
                  have H' := Aside0.mk H
                  clear H
                  go_wp2
                  go_roundg k1
                  case measure => have := HK1.out; omega
                  case rel => exact ⟨(wrap32 (Int.tdiv x0_1 16)), (((⟨#[48, 49, 50, 51, 52, 53, 54, 55, 56, 57, 65, 66, 67, 68, 69, 70]⟩ : ByteArray).extract ((ji9) : Int).toNat ((wrap32 ((ji9) + 1)) : Int).toNat) ++ x3_1), (wrap64 (x4_1 + 1)), (by first | rfl | (simp; done) | (simp [*]; done)), (by first | rfl | (simp; done) | (simp only [← hji9] <;> (first | rfl | simp)) | (simp [*]; done)), (by first | rfl | (simp; done) | (simp [*]; done)), H', ⟨by have := HK1.out; omega⟩, by repeat (first | exact Drawn0.refl _ | apply Drawn0.step)⟩
                · rw [if_neg c13] at H
                  exact absurd H (by simp)
              · rw [if_neg c12] at H
                exact absurd H (by simp)
            · rw [if_neg c11] at H
              exact absurd H (by simp)
          · rw [if_neg c10] at H
            exact absurd H (by simp)
        · rw [if_neg c8] at H
          have c8b0 : decide (0 < x0_1) = false := decide_eq_false c8
          clear c8
          obtain rfl := Option.some.inj H
          go_wp2
          go_ret
          exact ⟨by first | rfl | (simp; done) | (simp [*]; done), by repeat (first | exact Drawn0.refl _ | apply Drawn0.step)⟩

/-! ### posternref07_Text: function 40 -/
mutual
def posternref07_Text.l0 : Nat → List (S68) → ByteArray → Int → Option (ByteArray)
  | 0, _, _, _ => none
  | k + 1, x0, x3, x4 => if x4 < (x0.length : Int) then (if x4 > 0 then (if x3.size + 1 ≤ 9223372036854775807 then (posternref07_Text.j1 k x0 (x3 ++ (⟨#[44]⟩ : ByteArray)) x4) else (none)) else (posternref07_Text.j1 k x0 x3 x4)) else (some x3)
def posternref07_Text.j1 : Nat → List (S68) → ByteArray → Int → Option (ByteArray)
  | 0, _, _, _ => none
  | k + 1, x0, x3, x4 => if 0 ≤ x4 then (if x4 < (x0.length : Int) then ((posternref07_Hex.f k ((rd_T68 x0 x4).f0)).bind fun t410 => (if x3.size + t410.size ≤ 9223372036854775807 then (if ((rd_T68 x0 x4).f1) > ((rd_T68 x0 x4).f0) then ((posternref07_Hex.f k ((rd_T68 x0 x4).f1)).bind fun t414 => (if 1 + t414.size ≤ 9223372036854775807 then (if (x3 ++ t410).size + ((⟨#[45]⟩ : ByteArray) ++ t414).size ≤ 9223372036854775807 then (posternref07_Text.l0 k x0 ((x3 ++ t410) ++ ((⟨#[45]⟩ : ByteArray) ++ t414)) (wrap64 (x4 + 1))) else (none)) else (none))) else (posternref07_Text.l0 k x0 (x3 ++ t410) (wrap64 (x4 + 1)))) else (none))) else (none)) else (none)
end
def posternref07_Text.f (k : Nat) (l0 : List (S68)) : Option (ByteArray) := posternref07_Text.l0 k l0 (⟨#[]⟩ : ByteArray) 0
theorem posternref07_Text.mono_l : ∀ k, (∀ y0 y1 y2, LeO (posternref07_Text.l0 k y0 y1 y2) (posternref07_Text.l0 (k + 1) y0 y1 y2)) ∧ (∀ y0 y1 y2, LeO (posternref07_Text.j1 k y0 y1 y2) (posternref07_Text.j1 (k + 1) y0 y1 y2))
  | 0 => ⟨fun _ _ _ r h => by simp [posternref07_Text.l0] at h, fun _ _ _ r h => by simp [posternref07_Text.j1] at h⟩
  | k + 1 => by
    obtain ⟨ih0, ih1⟩ := posternref07_Text.mono_l k
    refine ⟨?_, ?_⟩
    · intro y0 y1 y2
      unfold posternref07_Text.l0
      repeat' first
      | (with_reducible exact ih0 _ _ _)
      | (with_reducible exact ih1 _ _ _)
      | (with_reducible exact posternref07_Hex.mono _ _)
      | (with_reducible exact LeO.refl _)
      | (with_reducible exact LeO.none _)
      | (with_reducible refine LeO.ite ?_ ?_)
      | (with_reducible refine LeO.bind ?_ (fun _ => ?_))
      | exact ih0 _ _ _
      | exact ih1 _ _ _
      | exact posternref07_Hex.mono _ _
      | exact LeO.none _
      | refine LeO.ite ?_ ?_
      | refine LeO.bind ?_ (fun _ => ?_)
    · intro y0 y1 y2
      unfold posternref07_Text.j1
      repeat' first
      | (with_reducible exact ih0 _ _ _)
      | (with_reducible exact ih1 _ _ _)
      | (with_reducible exact posternref07_Hex.mono _ _)
      | (with_reducible exact LeO.refl _)
      | (with_reducible exact LeO.none _)
      | (with_reducible refine LeO.ite ?_ ?_)
      | (with_reducible refine LeO.bind ?_ (fun _ => ?_))
      | exact ih0 _ _ _
      | exact ih1 _ _ _
      | exact posternref07_Hex.mono _ _
      | exact LeO.none _
      | refine LeO.ite ?_ ?_
      | refine LeO.bind ?_ (fun _ => ?_)
theorem posternref07_Text.mono : ∀ a0 k, LeO (posternref07_Text.f k a0) (posternref07_Text.f (k + 1) a0) := by
  intro a0 k
  obtain ⟨ih0, ih1⟩ := posternref07_Text.mono_l k
  unfold posternref07_Text.f
  repeat' first
      | (with_reducible exact ih0 _ _ _)
      | (with_reducible exact ih1 _ _ _)
      | (with_reducible exact posternref07_Hex.mono _ _)
      | (with_reducible exact LeO.refl _)
      | (with_reducible exact LeO.none _)
      | (with_reducible refine LeO.ite ?_ ?_)
      | (with_reducible refine LeO.bind ?_ (fun _ => ?_))
      | exact ih0 _ _ _
      | exact ih1 _ _ _
      | exact posternref07_Hex.mono _ _
      | exact LeO.none _
      | refine LeO.ite ?_ ?_
      | refine LeO.bind ?_ (fun _ => ?_)
set_option maxHeartbeats 8000000 in
set_option maxRecDepth 100000 in
theorem posternref07_Text.calls (k : Nat) (A0 : Option Addr) (c0 : Nat) (l0 : List (S68)) (r : ByteArray) (w : World) (hr0 : Kd.C k68 w A0 l0.length l0) (hc0 : l0.length ≤ c0) (h : posternref07_Text.f k l0 = some r) :
    Calls Try.prog 40 #[.slice A0 l0.length c0] w fun e w' => e = .returned (.string r) ∧ Drawn0 w w' := by
  have HR0 := Aside0.mk hr0
  have HC0 := Aside0.mk hc0
  clear hr0 hc0
  have H : (posternref07_Text.l0 k l0 (⟨#[]⟩ : ByteArray) 0) = some r := h
  clear h
  have H' := Aside0.mk H
  clear H
  go_enter Try.func40, Try.ntmps40
  go_wp2
  repeat (go_quiet (fail); try go_wp2)
  go_loopg [3, 4] k (fun kq v3 v4 w' => ∃ (x3_1 : ByteArray) (x4_1 : Int), v3 = .string x3_1 ∧ v4 = .int .i64 x4_1 ∧ Aside0 (posternref07_Text.l0 kq l0 x3_1 x4_1 = some r) ∧ Aside0 (kq ≤ k) ∧ Drawn0 w w')
  case atStart => exact ⟨((⟨#[]⟩ : ByteArray)), (0), (by first | rfl | (simp; done) | (simp [*]; done)), (by first | rfl | (simp; done) | (simp [*]; done)), H', ⟨Nat.le_refl _⟩, by repeat (first | exact Drawn0.refl _ | apply Drawn0.step)⟩
  case round =>
    clear H'
    obtain ⟨x3_1, x4_1, rfl, rfl, HA, HK1, ⟨m1, rfl⟩⟩ := hrel
    cases gk with
    | zero => exact absurd HA.out (by simp [posternref07_Text.l0])
    | succ k1 =>
      have H := HA.out
      clear HA
      simp only [posternref07_Text.l0] at H
      by_cases c2 : x4_1 < (l0.length : Int)
      · rw [if_pos c2] at H
        have c2b0 : decide (x4_1 < (l0.length : Int)) = true := decide_eq_true c2
        clear c2
        have HC3 := Aside0.mk H
        clear H
        go_upto_if 12 with (fail)
        repeat (go_quiet (fail); go_upto_if 12 with (fail))
        go_cut [3] (fun v3 wc => ∃ (kq : Nat) (x3_2 : ByteArray), v3 = .string x3_2 ∧ Aside0 (posternref07_Text.j1 kq l0 x3_2 x4_1 = some r) ∧ Aside0 (kq ≤ k1) ∧ Drawn0 w wc)
        case first =>
          have H := HC3.out
          clear HC3
          by_cases c4 : x4_1 > 0
          · rw [if_pos c4] at H
            have c4b0 : decide (0 < x4_1) = true := decide_eq_true c4
            clear c4
            (first | rw [c4b0] | (simp only [i64_w, i32_w]; rw [c4b0]) | skip)
            by_cases c5 : x3_1.size + 1 ≤ 9223372036854775807
            · rw [if_pos c5] at H
              have c5b0 := eq_true c5
              have c5b1 : decide (x3_1.size + 1 ≤ 9223372036854775807) = true := decide_eq_true c5
              try have c5b2 : (9223372036854775807 < x3_1.size + 1) = False := eq_false (Nat.not_lt.2 c5)
              have H' := Aside0.mk H
              clear H
              go_wp2
              repeat (go_quiet (fail); try go_wp2)
              go_meet
              case rel => exact ⟨_, (x3_1 ++ (⟨#[44]⟩ : ByteArray)), (by first | rfl | (simp; done) | (simp [*]; done)), H', ⟨by have := HK1.out; first | omega | exact Nat.le_refl _⟩, by repeat (first | exact Drawn0.refl _ | apply Drawn0.step)⟩
            · rw [if_neg c5] at H
              exact absurd H (by simp)
          · rw [if_neg c4] at H
            have c4b0 : decide (0 < x4_1) = false := decide_eq_false c4
            clear c4
            (first | rw [c4b0] | (simp only [i64_w, i32_w]; rw [c4b0]) | skip)
            have H' := Aside0.mk H
            clear H
            go_wp2
            repeat (go_quiet (fail); try go_wp2)
            go_meet
            case rel => exact ⟨_, (x3_1), (by first | rfl | (simp; done) | (simp [*]; done)), H', ⟨by have := HK1.out; first | omega | exact Nat.le_refl _⟩, by repeat (first | exact Drawn0.refl _ | apply Drawn0.step)⟩
        case rest =>
          clear HC3
          try clear c2
          try clear c2b0
          try clear p2
          try clear c4
          try clear c4b0
          try clear c5
          try clear c5b0
          try clear c5b1
          try clear c5b2
          obtain ⟨kq, x3_2, rfl, HA, HJ2, ⟨mc2, rfl⟩⟩ := hcut
          cases kq with
          | zero => exact absurd HA.out (by simp [posternref07_Text.j1])
          | succ kj2 =>
            have H := HA.out
            clear HA
            simp only [posternref07_Text.j1] at H
            by_cases c6 : 0 ≤ x4_1
            · rw [if_pos c6] at H
              have c6b0 : decide (0 ≤ x4_1) = true := decide_eq_true c6
              clear c6
              by_cases c7 : x4_1 < (l0.length : Int)
              · rw [if_pos c7] at H
                have c7b0 : decide (x4_1 < (l0.length : Int)) = true := decide_eq_true c7
                clear c7
                replace H := Option.bind_eq_some_iff.mp H
                obtain ⟨t410, A80, H⟩ := H
                replace H : (if x3_2.size + t410.size ≤ 9223372036854775807 then (if ((rd_T68 l0 x4_1).f1) > ((rd_T68 l0 x4_1).f0) then ((posternref07_Hex.f kj2 ((rd_T68 l0 x4_1).f1)).bind fun t414 => (if 1 + t414.size ≤ 9223372036854775807 then (if (x3_2 ++ t410).size + ((⟨#[45]⟩ : ByteArray) ++ t414).size ≤ 9223372036854775807 then (posternref07_Text.l0 kj2 l0 ((x3_2 ++ t410) ++ ((⟨#[45]⟩ : ByteArray) ++ t414)) (wrap64 (x4_1 + 1))) else (none)) else (none))) else (posternref07_Text.l0 kj2 l0 (x3_2 ++ t410) (wrap64 (x4_1 + 1)))) else (none)) = some r := H
                have A8 := Aside0.mk A80
                clear A80
                by_cases c9 : x3_2.size + t410.size ≤ 9223372036854775807
                · rw [if_pos c9] at H
                  have c9b0 := eq_true c9
                  have c9b1 : decide (x3_2.size + t410.size ≤ 9223372036854775807) = true := decide_eq_true c9
                  try have c9b2 : (9223372036854775807 < x3_2.size + t410.size) = False := eq_false (Nat.not_lt.2 c9)
                  by_cases c10 : ((rd_T68 l0 x4_1).f1) > ((rd_T68 l0 x4_1).f0)
                  · rw [if_pos c10] at H
                    have c10b0 : decide (((rd_T68 l0 x4_1).f0) < ((rd_T68 l0 x4_1).f1)) = true := decide_eq_true c10
                    clear c10
                    replace H := Option.bind_eq_some_iff.mp H
                    obtain ⟨t414, A110, H⟩ := H
                    replace H : (if 1 + t414.size ≤ 9223372036854775807 then (if (x3_2 ++ t410).size + ((⟨#[45]⟩ : ByteArray) ++ t414).size ≤ 9223372036854775807 then (posternref07_Text.l0 kj2 l0 ((x3_2 ++ t410) ++ ((⟨#[45]⟩ : ByteArray) ++ t414)) (wrap64 (x4_1 + 1))) else (none)) else (none)) = some r := H
                    have A11 := Aside0.mk A110
                    clear A110
                    by_cases c12 : 1 + t414.size ≤ 9223372036854775807
                    · rw [if_pos c12] at H
                      have c12b0 := eq_true c12
                      have c12b1 : decide (1 + t414.size ≤ 9223372036854775807) = true := decide_eq_true c12
                      try have c12b2 : (9223372036854775807 < 1 + t414.size) = False := eq_false (Nat.not_lt.2 c12)
                      by_cases c13 : (x3_2 ++ t410).size + ((⟨#[45]⟩ : ByteArray) ++ t414).size ≤ 9223372036854775807
                      · rw [if_pos c13] at H
                        have c13b0 := eq_true c13
                        have c13b1 : decide ((x3_2 ++ t410).size + ((⟨#[45]⟩ : ByteArray) ++ t414).size ≤ 9223372036854775807) = true := decide_eq_true c13
                        try have c13b2 : (9223372036854775807 < (x3_2 ++ t410).size + ((⟨#[45]⟩ : ByteArray) ++ t414).size) = False := eq_false (Nat.not_lt.2 c13)
                        have H' := Aside0.mk H
                        clear H
                        have p409 : 0 ≤ (x4_1 : Int) := of_decide_eq_true (by first | (with_reducible assumption) | assumption)
                        have q409 : x4_1 < (l0.length : Int) := of_decide_eq_true (by first | (with_reducible assumption) | assumption)
                        obtain ⟨ad409, e409, hx409_0, hx409_1⟩ := at_T68 HR0.out x4_1 p409 q409
                        cases e409
                        replace p409 := eq_true p409
                        replace q409 := eq_true q409
                        go_wp2_with (first | (go_at_call 58; (with_reducible refine (posternref07_Hex.calls kj2 ((rd_T68 l0 x4_1).f0) t410 _ A8.out).mono ?_); rintro e w' ⟨rfl, ⟨nd, rfl⟩⟩; (try first | exact ⟨rfl, _, World.drewN_drewN _ _ _⟩ | exact ⟨rfl, _, Eq.trans (World.drewN_drewN _ _ _) (congrArg (World.drewN _) (Nat.add_assoc _ _ _))⟩); have p411 : 0 ≤ (x4_1 : Int) := of_decide_eq_true (by first | (with_reducible assumption) | assumption); have q411 : x4_1 < (l0.length : Int) := of_decide_eq_true (by first | (with_reducible assumption) | assumption); obtain ⟨ad411, e411, hx411_0, hx411_1⟩ := at_T68 HR0.out x4_1 p411 q411; obtain rfl : ad409 = ad411 := (by injection e411); replace p411 := eq_true p411; replace q411 := eq_true q411; have p412 : 0 ≤ (x4_1 : Int) := of_decide_eq_true (by first | (with_reducible assumption) | assumption); have q412 : x4_1 < (l0.length : Int) := of_decide_eq_true (by first | (with_reducible assumption) | assumption); obtain ⟨ad412, e412, hx412_0, hx412_1⟩ := at_T68 HR0.out x4_1 p412 q412; obtain rfl : ad409 = ad412 := (by injection e412); replace p412 := eq_true p412; replace q412 := eq_true q412; have p413 : 0 ≤ (x4_1 : Int) := of_decide_eq_true (by first | (with_reducible assumption) | assumption); have q413 : x4_1 < (l0.length : Int) := of_decide_eq_true (by first | (with_reducible assumption) | assumption); obtain ⟨ad413, e413, hx413_0, hx413_1⟩ := at_T68 HR0.out x4_1 p413 q413; obtain rfl : ad409 = ad413 := (by injection e413); replace p413 := eq_true p413; replace q413 := eq_true q413) | (go_at_call 58; (with_reducible refine (posternref07_Hex.calls kj2 ((rd_T68 l0 x4_1).f1) t414 _ A11.out).mono ?_); rintro e w' ⟨rfl, ⟨nd, rfl⟩⟩; (try first | exact ⟨rfl, _, World.drewN_drewN _ _ _⟩ | exact ⟨rfl, _, Eq.trans (World.drewN_drewN _ _ _) (congrArg (World.drewN _) (Nat.add_assoc _ _ _))⟩)))
                        repeat (go_quiet (first | (go_at_call 58; (with_reducible refine (posternref07_Hex.calls kj2 ((rd_T68 l0 x4_1).f0) t410 _ A8.out).mono ?_); rintro e w' ⟨rfl, ⟨nd, rfl⟩⟩; (try first | exact ⟨rfl, _, World.drewN_drewN _ _ _⟩ | exact ⟨rfl, _, Eq.trans (World.drewN_drewN _ _ _) (congrArg (World.drewN _) (Nat.add_assoc _ _ _))⟩); have p411 : 0 ≤ (x4_1 : Int) := of_decide_eq_true (by first | (with_reducible assumption) | assumption); have q411 : x4_1 < (l0.length : Int) := of_decide_eq_true (by first | (with_reducible assumption) | assumption); obtain ⟨ad411, e411, hx411_0, hx411_1⟩ := at_T68 HR0.out x4_1 p411 q411; obtain rfl : ad409 = ad411 := (by injection e411); replace p411 := eq_true p411; replace q411 := eq_true q411; have p412 : 0 ≤ (x4_1 : Int) := of_decide_eq_true (by first | (with_reducible assumption) | assumption); have q412 : x4_1 < (l0.length : Int) := of_decide_eq_true (by first | (with_reducible assumption) | assumption); obtain ⟨ad412, e412, hx412_0, hx412_1⟩ := at_T68 HR0.out x4_1 p412 q412; obtain rfl : ad409 = ad412 := (by injection e412); replace p412 := eq_true p412; replace q412 := eq_true q412; have p413 : 0 ≤ (x4_1 : Int) := of_decide_eq_true (by first | (with_reducible assumption) | assumption); have q413 : x4_1 < (l0.length : Int) := of_decide_eq_true (by first | (with_reducible assumption) | assumption); obtain ⟨ad413, e413, hx413_0, hx413_1⟩ := at_T68 HR0.out x4_1 p413 q413; obtain rfl : ad409 = ad413 := (by injection e413); replace p413 := eq_true p413; replace q413 := eq_true q413) | (go_at_call 58; (with_reducible refine (posternref07_Hex.calls kj2 ((rd_T68 l0 x4_1).f1) t414 _ A11.out).mono ?_); rintro e w' ⟨rfl, ⟨nd, rfl⟩⟩; (try first | exact ⟨rfl, _, World.drewN_drewN _ _ _⟩ | exact ⟨rfl, _, Eq.trans (World.drewN_drewN _ _ _) (congrArg (World.drewN _) (Nat.add_assoc _ _ _))⟩))); try go_wp2_with (first | (go_at_call 58; (with_reducible refine (posternref07_Hex.calls kj2 ((rd_T68 l0 x4_1).f0) t410 _ A8.out).mono ?_); rintro e w' ⟨rfl, ⟨nd, rfl⟩⟩; (try first | exact ⟨rfl, _, World.drewN_drewN _ _ _⟩ | exact ⟨rfl, _, Eq.trans (World.drewN_drewN _ _ _) (congrArg (World.drewN _) (Nat.add_assoc _ _ _))⟩); have p411 : 0 ≤ (x4_1 : Int) := of_decide_eq_true (by first | (with_reducible assumption) | assumption); have q411 : x4_1 < (l0.length : Int) := of_decide_eq_true (by first | (with_reducible assumption) | assumption); obtain ⟨ad411, e411, hx411_0, hx411_1⟩ := at_T68 HR0.out x4_1 p411 q411; obtain rfl : ad409 = ad411 := (by injection e411); replace p411 := eq_true p411; replace q411 := eq_true q411; have p412 : 0 ≤ (x4_1 : Int) := of_decide_eq_true (by first | (with_reducible assumption) | assumption); have q412 : x4_1 < (l0.length : Int) := of_decide_eq_true (by first | (with_reducible assumption) | assumption); obtain ⟨ad412, e412, hx412_0, hx412_1⟩ := at_T68 HR0.out x4_1 p412 q412; obtain rfl : ad409 = ad412 := (by injection e412); replace p412 := eq_true p412; replace q412 := eq_true q412; have p413 : 0 ≤ (x4_1 : Int) := of_decide_eq_true (by first | (with_reducible assumption) | assumption); have q413 : x4_1 < (l0.length : Int) := of_decide_eq_true (by first | (with_reducible assumption) | assumption); obtain ⟨ad413, e413, hx413_0, hx413_1⟩ := at_T68 HR0.out x4_1 p413 q413; obtain rfl : ad409 = ad413 := (by injection e413); replace p413 := eq_true p413; replace q413 := eq_true q413) | (go_at_call 58; (with_reducible refine (posternref07_Hex.calls kj2 ((rd_T68 l0 x4_1).f1) t414 _ A11.out).mono ?_); rintro e w' ⟨rfl, ⟨nd, rfl⟩⟩; (try first | exact ⟨rfl, _, World.drewN_drewN _ _ _⟩ | exact ⟨rfl, _, Eq.trans (World.drewN_drewN _ _ _) (congrArg (World.drewN _) (Nat.add_assoc _ _ _))⟩))))
                        go_roundg kj2
                        case measure => have := HK1.out; have := HJ2.out; omega
                        case rel => exact ⟨((x3_2 ++ t410) ++ ((⟨#[45]⟩ : ByteArray) ++ t414)), (wrap64 (x4_1 + 1)), (by first | rfl | (simp; done) | (simp [*]; done)), (by first | rfl | (simp; done) | (simp [*]; done)), H', ⟨by have := HK1.out; have := HJ2.out; omega⟩, by repeat (first | exact Drawn0.refl _ | apply Drawn0.step)⟩
                      · rw [if_neg c13] at H
                        exact absurd H (by simp)
                    · rw [if_neg c12] at H
                      exact absurd H (by simp)
                  · rw [if_neg c10] at H
                    have c10b0 : decide (((rd_T68 l0 x4_1).f0) < ((rd_T68 l0 x4_1).f1)) = false := decide_eq_false c10
                    clear c10
                    have H' := Aside0.mk H
                    clear H
                    have p409 : 0 ≤ (x4_1 : Int) := of_decide_eq_true (by first | (with_reducible assumption) | assumption)
                    have q409 : x4_1 < (l0.length : Int) := of_decide_eq_true (by first | (with_reducible assumption) | assumption)
                    obtain ⟨ad409, e409, hx409_0, hx409_1⟩ := at_T68 HR0.out x4_1 p409 q409
                    cases e409
                    replace p409 := eq_true p409
                    replace q409 := eq_true q409
                    go_wp2_with (first | (go_at_call 58; (with_reducible refine (posternref07_Hex.calls kj2 ((rd_T68 l0 x4_1).f0) t410 _ A8.out).mono ?_); rintro e w' ⟨rfl, ⟨nd, rfl⟩⟩; (try first | exact ⟨rfl, _, World.drewN_drewN _ _ _⟩ | exact ⟨rfl, _, Eq.trans (World.drewN_drewN _ _ _) (congrArg (World.drewN _) (Nat.add_assoc _ _ _))⟩); have p411 : 0 ≤ (x4_1 : Int) := of_decide_eq_true (by first | (with_reducible assumption) | assumption); have q411 : x4_1 < (l0.length : Int) := of_decide_eq_true (by first | (with_reducible assumption) | assumption); obtain ⟨ad411, e411, hx411_0, hx411_1⟩ := at_T68 HR0.out x4_1 p411 q411; obtain rfl : ad409 = ad411 := (by injection e411); replace p411 := eq_true p411; replace q411 := eq_true q411; have p412 : 0 ≤ (x4_1 : Int) := of_decide_eq_true (by first | (with_reducible assumption) | assumption); have q412 : x4_1 < (l0.length : Int) := of_decide_eq_true (by first | (with_reducible assumption) | assumption); obtain ⟨ad412, e412, hx412_0, hx412_1⟩ := at_T68 HR0.out x4_1 p412 q412; obtain rfl : ad409 = ad412 := (by injection e412); replace p412 := eq_true p412; replace q412 := eq_true q412))
                    repeat (go_quiet (first | (go_at_call 58; (with_reducible refine (posternref07_Hex.calls kj2 ((rd_T68 l0 x4_1).f0) t410 _ A8.out).mono ?_); rintro e w' ⟨rfl, ⟨nd, rfl⟩⟩; (try first | exact ⟨rfl, _, World.drewN_drewN _ _ _⟩ | exact ⟨rfl, _, Eq.trans (World.drewN_drewN _ _ _) (congrArg (World.drewN _) (Nat.add_assoc _ _ _))⟩); have p411 : 0 ≤ (x4_1 : Int) := of_decide_eq_true (by first | (with_reducible assumption) | assumption); have q411 : x4_1 < (l0.length : Int) := of_decide_eq_true (by first | (with_reducible assumption) | assumption); obtain ⟨ad411, e411, hx411_0, hx411_1⟩ := at_T68 HR0.out x4_1 p411 q411; obtain rfl : ad409 = ad411 := (by injection e411); replace p411 := eq_true p411; replace q411 := eq_true q411; have p412 : 0 ≤ (x4_1 : Int) := of_decide_eq_true (by first | (with_reducible assumption) | assumption); have q412 : x4_1 < (l0.length : Int) := of_decide_eq_true (by first | (with_reducible assumption) | assumption); obtain ⟨ad412, e412, hx412_0, hx412_1⟩ := at_T68 HR0.out x4_1 p412 q412; obtain rfl : ad409 = ad412 := (by injection e412); replace p412 := eq_true p412; replace q412 := eq_true q412)); try go_wp2_with (first | (go_at_call 58; (with_reducible refine (posternref07_Hex.calls kj2 ((rd_T68 l0 x4_1).f0) t410 _ A8.out).mono ?_); rintro e w' ⟨rfl, ⟨nd, rfl⟩⟩; (try first | exact ⟨rfl, _, World.drewN_drewN _ _ _⟩ | exact ⟨rfl, _, Eq.trans (World.drewN_drewN _ _ _) (congrArg (World.drewN _) (Nat.add_assoc _ _ _))⟩); have p411 : 0 ≤ (x4_1 : Int) := of_decide_eq_true (by first | (with_reducible assumption) | assumption); have q411 : x4_1 < (l0.length : Int) := of_decide_eq_true (by first | (with_reducible assumption) | assumption); obtain ⟨ad411, e411, hx411_0, hx411_1⟩ := at_T68 HR0.out x4_1 p411 q411; obtain rfl : ad409 = ad411 := (by injection e411); replace p411 := eq_true p411; replace q411 := eq_true q411; have p412 : 0 ≤ (x4_1 : Int) := of_decide_eq_true (by first | (with_reducible assumption) | assumption); have q412 : x4_1 < (l0.length : Int) := of_decide_eq_true (by first | (with_reducible assumption) | assumption); obtain ⟨ad412, e412, hx412_0, hx412_1⟩ := at_T68 HR0.out x4_1 p412 q412; obtain rfl : ad409 = ad412 := (by injection e412); replace p412 := eq_true p412; replace q412 := eq_true q412)))
                    go_roundg kj2
                    case measure => have := HK1.out; have := HJ2.out; omega
                    case rel => exact ⟨(x3_2 ++ t410), (wrap64 (x4_1 + 1)), (by first | rfl | (simp; done) | (simp [*]; done)), (by first | rfl | (simp; done) | (simp [*]; done)), H', ⟨by have := HK1.out; have := HJ2.out; omega⟩, by repeat (first | exact Drawn0.refl _ | apply Drawn0.step)⟩
                · rw [if_neg c9] at H
                  exact absurd H (by simp)
              · rw [if_neg c7] at H
                exact absurd H (by simp)
            · rw [if_neg c6] at H
              exact absurd H (by simp)
      · rw [if_neg c2] at H
        have c2b0 : decide (x4_1 < (l0.length : Int)) = false := decide_eq_false c2
        clear c2
        obtain rfl := Option.some.inj H
        go_wp2
        repeat (go_quiet (fail); try go_wp2)
        go_ret
        exact ⟨by first | rfl | (simp; done) | (simp [*]; done), by repeat (first | exact Drawn0.refl _ | apply Drawn0.step)⟩

end Go.Proofs.Ytkpdccegamcppaa.PSpan
