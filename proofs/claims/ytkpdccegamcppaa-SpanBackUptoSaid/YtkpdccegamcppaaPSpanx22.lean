-- Written by a program of this session, over the words of the kit's print.
import Derived.Test.YtkpdccegamcppaaPSpanx0
import Derived.Test.YtkpdccegamcppaaPSpanx21
namespace Go.Proofs.Ytkpdccegamcppaa.PSpan
open Go.RowKit Go.Proofs.YtkpdccegamcppaaW.PrintWords Go.Proofs.YtkpdccegamcppaaW.PrintLast Go.Proofs.YtkpdccegamcppaaW.PrintMore
attribute [local go_sem] max2_int min2_int max_two min_two max_three min_three max_four min_four   -- for this text's walks alone
set_option linter.unusedVariables false
set_option linter.unusedSimpArgs false

/-! ### posternref07_number: function 57 -/
mutual
def posternref07_number.l0 : Nat → ByteArray → Int → Int → Int → Int → Option (Int × Int × Bool)
  | 0, _, _, _, _, _ => none
  | k + 1, x0, x1, x2, x9, x10 => if x10 < (x0.size : Int) then (posternref07_number.j1 k x0 x1 x2 x9 x10 (decide ((wrap64 (x10 - x1)) < 6))) else (posternref07_number.j1 k x0 x1 x2 x9 x10 false)
def posternref07_number.j1 : Nat → ByteArray → Int → Int → Int → Int → Bool → Option (Int × Int × Bool)
  | 0, _, _, _, _, _, _ => none
  | k + 1, x0, x1, x2, x9, x10, x24 => if x24 = true then (posternref07_number.l1 k x0 x1 x2 x9 x10 (-1) 0) else (if (wrap64 (x10 - x1)) ≥ 4 then (if x9 ≥ x2 then (if x9 ≤ 1114111 then (if (wrap64 (x10 - x1)) = 4 then (some (x10, x9, true)) else (if 0 ≤ (IntKind.u64.wrap (wrap64 (4 * (wrap64 ((wrap64 (x10 - x1)) - 1))))) then (some (x10, x9, decide (x9 ≥ (shl .i32 1 (IntKind.u64.wrap (wrap64 (4 * (wrap64 ((wrap64 (x10 - x1)) - 1))))))))) else (none))) else (some (x10, x9, false))) else (some (x10, x9, false))) else (some (x10, x9, false)))
def posternref07_number.l1 : Nat → ByteArray → Int → Int → Int → Int → Int → Int → Option (Int × Int × Bool)
  | 0, _, _, _, _, _, _, _ => none
  | k + 1, x0, x1, x2, x9, x10, x11, x12 => if x12 < 16 then (if 0 ≤ x12 then (if 0 ≤ x10 then (if x10 < (x0.size : Int) then (if (bt (⟨#[48, 49, 50, 51, 52, 53, 54, 55, 56, 57, 65, 66, 67, 68, 69, 70]⟩ : ByteArray) x12) = (bt x0 x10) then (posternref07_number.l1 k x0 x1 x2 x9 x10 x12 (wrap32 (x12 + 1))) else (posternref07_number.l1 k x0 x1 x2 x9 x10 x11 (wrap32 (x12 + 1)))) else (none)) else (none)) else (none)) else (if x11 < 0 then (if (wrap64 (x10 - x1)) ≥ 4 then (if x9 ≥ x2 then (if x9 ≤ 1114111 then (if (wrap64 (x10 - x1)) = 4 then (some (x10, x9, true)) else (if 0 ≤ (IntKind.u64.wrap (wrap64 (4 * (wrap64 ((wrap64 (x10 - x1)) - 1))))) then (some (x10, x9, decide (x9 ≥ (shl .i32 1 (IntKind.u64.wrap (wrap64 (4 * (wrap64 ((wrap64 (x10 - x1)) - 1))))))))) else (none))) else (some (x10, x9, false))) else (some (x10, x9, false))) else (some (x10, x9, false))) else ((posternref07_grows.f k (wrap32 ((wrap32 (16 * x9)) + x11)) (wrap64 ((wrap64 (x10 - x1)) + 1)) x2).bind fun t380 => (if t380 = true then (posternref07_number.l0 k x0 x1 x2 (wrap32 ((wrap32 (16 * x9)) + x11)) (wrap64 (x10 + 1))) else (if (wrap64 (x10 - x1)) ≥ 4 then (if x9 ≥ x2 then (if x9 ≤ 1114111 then (if (wrap64 (x10 - x1)) = 4 then (some (x10, x9, true)) else (if 0 ≤ (IntKind.u64.wrap (wrap64 (4 * (wrap64 ((wrap64 (x10 - x1)) - 1))))) then (some (x10, x9, decide (x9 ≥ (shl .i32 1 (IntKind.u64.wrap (wrap64 (4 * (wrap64 ((wrap64 (x10 - x1)) - 1))))))))) else (none))) else (some (x10, x9, false))) else (some (x10, x9, false))) else (some (x10, x9, false))))))
end
def posternref07_number.f (k : Nat) (a0 : ByteArray) (a1 : Int) (a2 : Int) : Option (Int × Int × Bool) := posternref07_number.l0 k a0 a1 a2 0 a1
theorem posternref07_number.mono_l : ∀ k, (∀ y0 y1 y2 y3 y4, LeO (posternref07_number.l0 k y0 y1 y2 y3 y4) (posternref07_number.l0 (k + 1) y0 y1 y2 y3 y4)) ∧ (∀ y0 y1 y2 y3 y4 y5, LeO (posternref07_number.j1 k y0 y1 y2 y3 y4 y5) (posternref07_number.j1 (k + 1) y0 y1 y2 y3 y4 y5)) ∧ (∀ y0 y1 y2 y3 y4 y5 y6, LeO (posternref07_number.l1 k y0 y1 y2 y3 y4 y5 y6) (posternref07_number.l1 (k + 1) y0 y1 y2 y3 y4 y5 y6))
  | 0 => ⟨fun _ _ _ _ _ r h => by simp [posternref07_number.l0] at h, fun _ _ _ _ _ _ r h => by simp [posternref07_number.j1] at h, fun _ _ _ _ _ _ _ r h => by simp [posternref07_number.l1] at h⟩
  | k + 1 => by
    obtain ⟨ih0, ih1, ih2⟩ := posternref07_number.mono_l k
    refine ⟨?_, ?_, ?_⟩
    · intro y0 y1 y2 y3 y4
      unfold posternref07_number.l0
      repeat' first
      | (with_reducible exact ih0 _ _ _ _ _)
      | (with_reducible exact ih1 _ _ _ _ _ _)
      | (with_reducible exact ih2 _ _ _ _ _ _ _)
      | (with_reducible exact posternref07_grows.mono _ _ _ _)
      | (with_reducible exact LeO.refl _)
      | (with_reducible exact LeO.none _)
      | (with_reducible refine LeO.ite ?_ ?_)
      | (with_reducible refine LeO.bind ?_ (fun _ => ?_))
      | exact ih0 _ _ _ _ _
      | exact ih1 _ _ _ _ _ _
      | exact ih2 _ _ _ _ _ _ _
      | exact posternref07_grows.mono _ _ _ _
      | exact LeO.none _
      | refine LeO.ite ?_ ?_
      | refine LeO.bind ?_ (fun _ => ?_)
    · intro y0 y1 y2 y3 y4 y5
      unfold posternref07_number.j1
      repeat' first
      | (with_reducible exact ih0 _ _ _ _ _)
      | (with_reducible exact ih1 _ _ _ _ _ _)
      | (with_reducible exact ih2 _ _ _ _ _ _ _)
      | (with_reducible exact posternref07_grows.mono _ _ _ _)
      | (with_reducible exact LeO.refl _)
      | (with_reducible exact LeO.none _)
      | (with_reducible refine LeO.ite ?_ ?_)
      | (with_reducible refine LeO.bind ?_ (fun _ => ?_))
      | exact ih0 _ _ _ _ _
      | exact ih1 _ _ _ _ _ _
      | exact ih2 _ _ _ _ _ _ _
      | exact posternref07_grows.mono _ _ _ _
      | exact LeO.none _
      | refine LeO.ite ?_ ?_
      | refine LeO.bind ?_ (fun _ => ?_)
    · intro y0 y1 y2 y3 y4 y5 y6
      unfold posternref07_number.l1
      repeat' first
      | (with_reducible exact ih0 _ _ _ _ _)
      | (with_reducible exact ih1 _ _ _ _ _ _)
      | (with_reducible exact ih2 _ _ _ _ _ _ _)
      | (with_reducible exact posternref07_grows.mono _ _ _ _)
      | (with_reducible exact LeO.refl _)
      | (with_reducible exact LeO.none _)
      | (with_reducible refine LeO.ite ?_ ?_)
      | (with_reducible refine LeO.bind ?_ (fun _ => ?_))
      | exact ih0 _ _ _ _ _
      | exact ih1 _ _ _ _ _ _
      | exact ih2 _ _ _ _ _ _ _
      | exact posternref07_grows.mono _ _ _ _
      | exact LeO.none _
      | refine LeO.ite ?_ ?_
      | refine LeO.bind ?_ (fun _ => ?_)
theorem posternref07_number.mono : ∀ a0 a1 a2 k, LeO (posternref07_number.f k a0 a1 a2) (posternref07_number.f (k + 1) a0 a1 a2) := by
  intro a0 a1 a2 k
  obtain ⟨ih0, ih1, ih2⟩ := posternref07_number.mono_l k
  unfold posternref07_number.f
  repeat' first
      | (with_reducible exact ih0 _ _ _ _ _)
      | (with_reducible exact ih1 _ _ _ _ _ _)
      | (with_reducible exact ih2 _ _ _ _ _ _ _)
      | (with_reducible exact posternref07_grows.mono _ _ _ _)
      | (with_reducible exact LeO.refl _)
      | (with_reducible exact LeO.none _)
      | (with_reducible refine LeO.ite ?_ ?_)
      | (with_reducible refine LeO.bind ?_ (fun _ => ?_))
      | exact ih0 _ _ _ _ _
      | exact ih1 _ _ _ _ _ _
      | exact ih2 _ _ _ _ _ _ _
      | exact posternref07_grows.mono _ _ _ _
      | exact LeO.none _
      | refine LeO.ite ?_ ?_
      | refine LeO.bind ?_ (fun _ => ?_)
set_option maxHeartbeats 8000000 in
set_option maxRecDepth 100000 in
theorem posternref07_number.calls (k : Nat) (a0 : ByteArray) (a1 : Int) (a2 : Int) (r1 : Int) (r2 : Int) (r3 : Bool) (w : World) (h : posternref07_number.f k a0 a1 a2 = some (r1, r2, r3)) :
    Calls Try.prog 57 #[.string a0, .int .i64 a1, .int .i32 a2] w fun e w' => e = .returned (.tuple #[.int .i64 r1, .int .i32 r2, .bool r3]) ∧ Drawn0 w w' := by
  have H : (posternref07_number.l0 k a0 a1 a2 0 a1) = some (r1, r2, r3) := h
  clear h
  have H' := Aside0.mk H
  clear H
  go_enter Try.func57, Try.ntmps57
  go_wp2
  repeat (go_quiet (fail); try go_wp2)
  go_loopg [9, 10] k (fun kq v9 v10 w' => ∃ (x9_1 : Int) (x10_1 : Int), v9 = .int .i32 x9_1 ∧ v10 = .int .i64 x10_1 ∧ Aside0 (posternref07_number.l0 kq a0 a1 a2 x9_1 x10_1 = some (r1, r2, r3)) ∧ Aside0 (kq ≤ k) ∧ Drawn0 w w')
  case atStart => exact ⟨(0), (a1), (by first | rfl | (simp; done) | (simp [*]; done)), (by first | rfl | (simp; done) | (simp [*]; done)), H', ⟨Nat.le_refl _⟩, by repeat (first | exact Drawn0.refl _ | apply Drawn0.step)⟩
  case round =>
    clear H'
    try clear p2
    obtain ⟨x9_1, x10_1, rfl, rfl, HA, HK1, ⟨m1, rfl⟩⟩ := hrel
    cases gk with
    | zero => exact absurd HA.out (by simp [posternref07_number.l0])
    | succ k1 =>
      have H := HA.out
      clear HA
      simp only [posternref07_number.l0] at H
      have HC4 := Aside0.mk H
      clear H
      go_upto_region 3 with (fail)
      repeat (go_quiet (fail); go_upto_region 3 with (fail))
      go_cut [24] (fun v24 wc => ∃ (kq : Nat) (x24_3 : Bool), v24 = .bool x24_3 ∧ Aside0 (posternref07_number.j1 kq a0 a1 a2 x9_1 x10_1 x24_3 = some (r1, r2, r3)) ∧ Aside0 (kq ≤ k1) ∧ Drawn0 w wc)
      case first =>
        have H := HC4.out
        clear HC4
        by_cases c5 : x10_1 < (a0.size : Int)
        · rw [if_pos c5] at H
          have c5b0 : decide (x10_1 < (a0.size : Int)) = true := decide_eq_true c5
          clear c5
          (first | rw [c5b0] | (simp only [i64_w, i32_w]; rw [c5b0]) | skip)
          have H' := Aside0.mk H
          clear H
          go_wp2
          repeat (go_quiet (fail); try go_wp2)
          go_meet
          case rel => exact ⟨_, (decide ((wrap64 (x10_1 - a1)) < 6)), (by first | rfl | (simp; done) | (simp [*]; done)), H', ⟨by have := HK1.out; first | omega | exact Nat.le_refl _⟩, by repeat (first | exact Drawn0.refl _ | apply Drawn0.step)⟩
        · rw [if_neg c5] at H
          have c5b0 : decide (x10_1 < (a0.size : Int)) = false := decide_eq_false c5
          clear c5
          (first | rw [c5b0] | (simp only [i64_w, i32_w]; rw [c5b0]) | skip)
          have H' := Aside0.mk H
          clear H
          go_wp2
          repeat (go_quiet (fail); try go_wp2)
          go_meet
          case rel => exact ⟨_, (false), (by first | rfl | (simp; done) | (simp [*]; done)), H', ⟨by have := HK1.out; first | omega | exact Nat.le_refl _⟩, by repeat (first | exact Drawn0.refl _ | apply Drawn0.step)⟩
      case rest =>
        clear HC4
        try clear p2
        try clear c5
        try clear c5b0
        try clear p2
        obtain ⟨kq, x24_3, rfl, HA, HJ3, ⟨mc3, rfl⟩⟩ := hcut
        cases kq with
        | zero => exact absurd HA.out (by simp [posternref07_number.j1])
        | succ kj3 =>
          have H := HA.out
          clear HA
          simp only [posternref07_number.j1] at H
          by_cases c6 : x24_3 = true
          · subst c6
            have H1 : (posternref07_number.l1 kj3 a0 a1 a2 x9_1 x10_1 (-1) 0) = some (r1, r2, r3) := by rw [if_pos rfl] at H; exact H
            clear H
            have H := H1
            clear H1
            have H' := Aside0.mk H
            clear H
            go_wp2
            repeat (go_quiet (fail); try go_wp2)
            go_loopg [11, 12] kj3 (fun kq v11 v12 w' => ∃ (x11_3 : Int) (x12_3 : Int), v11 = .int .i32 x11_3 ∧ v12 = .int .i32 x12_3 ∧ Aside0 (posternref07_number.l1 kq a0 a1 a2 x9_1 x10_1 x11_3 x12_3 = some (r1, r2, r3)) ∧ Aside0 (kq ≤ kj3) ∧ Drawn0 w w')
            case atStart => exact ⟨((-1)), (0), (by first | rfl | (simp; done) | (simp [*]; done)), (by first | rfl | (simp; done) | (simp [*]; done)), H', ⟨Nat.le_refl _⟩, by repeat (first | exact Drawn0.refl _ | apply Drawn0.step)⟩
            case round =>
              clear H'
              try clear p2
              try clear c3
              try clear c5
              try clear c5b0
              try clear c6
              try clear p6
              try clear p2
              obtain ⟨x11_3, x12_3, rfl, rfl, HA, HK3, ⟨m3, rfl⟩⟩ := hrel
              cases gk with
              | zero => exact absurd HA.out (by simp [posternref07_number.l1])
              | succ k3 =>
                have H := HA.out
                clear HA
                simp only [posternref07_number.l1] at H
                by_cases c7 : x12_3 < 16
                · rw [if_pos c7] at H
                  have c7b0 : decide (x12_3 < 16) = true := decide_eq_true c7
                  clear c7
                  by_cases c8 : 0 ≤ x12_3
                  · rw [if_pos c8] at H
                    have c8b0 : decide (0 ≤ x12_3) = true := decide_eq_true c8
                    clear c8
                    by_cases c10 : 0 ≤ x10_1
                    · rw [if_pos c10] at H
                      have c10b0 : decide (0 ≤ x10_1) = true := decide_eq_true c10
                      clear c10
                      by_cases c11 : x10_1 < (a0.size : Int)
                      · rw [if_pos c11] at H
                        have c11b0 : decide (x10_1 < (a0.size : Int)) = true := decide_eq_true c11
                        clear c11
                        by_cases c13 : (bt (⟨#[48, 49, 50, 51, 52, 53, 54, 55, 56, 57, 65, 66, 67, 68, 69, 70]⟩ : ByteArray) x12_3) = (bt a0 x10_1)
                        · rw [if_pos c13] at H
                          have c13b0 : ((bt (⟨#[48, 49, 50, 51, 52, 53, 54, 55, 56, 57, 65, 66, 67, 68, 69, 70]⟩ : ByteArray) x12_3) == (bt a0 x10_1)) = true := beq_iff_eq.mpr c13
                          have c13b1 : ((bt (⟨#[48, 49, 50, 51, 52, 53, 54, 55, 56, 57, 65, 66, 67, 68, 69, 70]⟩ : ByteArray) x12_3) != (bt a0 x10_1)) = false := bne_eq_false_iff_eq.mpr c13
                          clear c13
                          have H' := Aside0.mk H
                          clear H
                          have p9 : 0 ≤ (x12_3 : Int) := of_decide_eq_true (by first | (with_reducible assumption) | assumption)
                          have q9 : x12_3 < (16 : Int) := of_decide_eq_true (by first | (with_reducible assumption) | assumption)
                          have hx9 := bt_at (⟨#[48, 49, 50, 51, 52, 53, 54, 55, 56, 57, 65, 66, 67, 68, 69, 70]⟩ : ByteArray) x12_3
                          replace p9 := eq_true p9
                          replace q9 := eq_true q9
                          have p12 : 0 ≤ (x10_1 : Int) := of_decide_eq_true (by first | (with_reducible assumption) | assumption)
                          have q12 : x10_1 < (a0.size : Int) := of_decide_eq_true (by first | (with_reducible assumption) | assumption)
                          have hx12 := bt_at a0 x10_1
                          replace p12 := eq_true p12
                          replace q12 := eq_true q12
                          go_wp2
                          repeat (go_quiet (fail); try go_wp2)
                          go_roundg k3
                          case measure => have := HK1.out; have := HJ3.out; have := HK3.out; omega
                          case rel => exact ⟨(x12_3), (wrap32 (x12_3 + 1)), (by first | rfl | (simp; done) | (simp [*]; done)), (by first | rfl | (simp; done) | (simp [*]; done)), H', ⟨by have := HK1.out; have := HJ3.out; have := HK3.out; omega⟩, by repeat (first | exact Drawn0.refl _ | apply Drawn0.step)⟩
                        · rw [if_neg c13] at H
                          have c13b0 : ((bt (⟨#[48, 49, 50, 51, 52, 53, 54, 55, 56, 57, 65, 66, 67, 68, 69, 70]⟩ : ByteArray) x12_3) == (bt a0 x10_1)) = false := beq_eq_false_iff_ne.mpr c13
                          have c13b1 : ((bt (⟨#[48, 49, 50, 51, 52, 53, 54, 55, 56, 57, 65, 66, 67, 68, 69, 70]⟩ : ByteArray) x12_3) != (bt a0 x10_1)) = true := bne_iff_ne.mpr c13
                          have H' := Aside0.mk H
                          clear H
                          have p9 : 0 ≤ (x12_3 : Int) := of_decide_eq_true (by first | (with_reducible assumption) | assumption)
                          have q9 : x12_3 < (16 : Int) := of_decide_eq_true (by first | (with_reducible assumption) | assumption)
                          have hx9 := bt_at (⟨#[48, 49, 50, 51, 52, 53, 54, 55, 56, 57, 65, 66, 67, 68, 69, 70]⟩ : ByteArray) x12_3
                          replace p9 := eq_true p9
                          replace q9 := eq_true q9
                          have p12 : 0 ≤ (x10_1 : Int) := of_decide_eq_true (by first | (with_reducible assumption) | assumption)
                          have q12 : x10_1 < (a0.size : Int) := of_decide_eq_true (by first | (with_reducible assumption) | assumption)
                          have hx12 := bt_at a0 x10_1
                          replace p12 := eq_true p12
                          replace q12 := eq_true q12
                          go_wp2
                          repeat (go_quiet (fail); try go_wp2)
                          go_roundg k3
                          case measure => have := HK1.out; have := HJ3.out; have := HK3.out; omega
                          case rel => exact ⟨(x11_3), (wrap32 (x12_3 + 1)), (by first | rfl | (simp; done) | (simp [*]; done)), (by first | rfl | (simp; done) | (simp [*]; done)), H', ⟨by have := HK1.out; have := HJ3.out; have := HK3.out; omega⟩, by repeat (first | exact Drawn0.refl _ | apply Drawn0.step)⟩
                      · rw [if_neg c11] at H
                        exact absurd H (by simp)
                    · rw [if_neg c10] at H
                      exact absurd H (by simp)
                  · rw [if_neg c8] at H
                    exact absurd H (by simp)
                · rw [if_neg c7] at H
                  have c7b0 : decide (x12_3 < 16) = false := decide_eq_false c7
                  clear c7
                  by_cases c14 : x11_3 < 0
                  · rw [if_pos c14] at H
                    have c14b0 : decide (x11_3 < 0) = true := decide_eq_true c14
                    clear c14
                    by_cases c15 : (wrap64 (x10_1 - a1)) ≥ 4
                    · rw [if_pos c15] at H
                      have c15b0 : decide (4 ≤ (wrap64 (x10_1 - a1))) = true := decide_eq_true c15
                      clear c15
                      by_cases c16 : x9_1 ≥ a2
                      · rw [if_pos c16] at H
                        have c16b0 : decide (a2 ≤ x9_1) = true := decide_eq_true c16
                        clear c16
                        by_cases c17 : x9_1 ≤ 1114111
                        · rw [if_pos c17] at H
                          have c17b0 : decide (x9_1 ≤ 1114111) = true := decide_eq_true c17
                          clear c17
                          by_cases c18 : (wrap64 (x10_1 - a1)) = 4
                          · rw [if_pos c18] at H
                            have c18b0 : ((wrap64 (x10_1 - a1)) == 4) = true := beq_iff_eq.mpr c18
                            have c18b1 : ((wrap64 (x10_1 - a1)) != 4) = false := bne_eq_false_iff_eq.mpr c18
                            clear c18
                            simp only [Option.some.injEq, Prod.mk.injEq] at H
                            obtain ⟨rfl, rfl, rfl⟩ := H
                            go_wp2
                            repeat (go_quiet (fail); try go_wp2)
                            go_ret3
                            exact ⟨by first | rfl | (simp; done) | (simp [*]; done), by repeat (first | exact Drawn0.refl _ | apply Drawn0.step)⟩
                          · rw [if_neg c18] at H
                            have c18b0 : ((wrap64 (x10_1 - a1)) == 4) = false := beq_eq_false_iff_ne.mpr c18
                            have c18b1 : ((wrap64 (x10_1 - a1)) != 4) = true := bne_iff_ne.mpr c18
                            obtain ⟨ji19, hji19⟩ : ∃ j_ : Int, (IntKind.u64.wrap (wrap64 (4 * (wrap64 ((wrap64 (x10_1 - a1)) - 1))))) = j_ := ⟨_, rfl⟩
                            replace H : (if 0 ≤ (ji19) then (some (x10_1, x9_1, decide (x9_1 ≥ (shl .i32 1 (ji19))))) else (none)) = some (r1, r2, r3) := by first | (rw [hji19] at H; exact H) | (simp only [hji19] at H ⊢; exact H)
                            by_cases c20 : 0 ≤ (ji19)
                            · rw [if_pos c20] at H
                              have c20b0 := eq_true c20
                              have c20b1 : decide (0 ≤ (ji19)) = true := decide_eq_true c20
                              clear c20
                              obtain ⟨ji21, hji21⟩ : ∃ j_ : Int, (shl .i32 1 (ji19)) = j_ := ⟨_, rfl⟩
                              replace H : (some (x10_1, x9_1, decide (x9_1 ≥ (ji21)))) = some (r1, r2, r3) := by first | (rw [hji21] at H; exact H) | (simp only [hji21] at H ⊢; exact H)
                              have hji21_ : (IntKind.i32.wrap (1 * 2 ^ min (ji19).toNat 32)) = ji21 := hji21
                              have hji21z : (ji19) ≤ 32 → (IntKind.i32.wrap (1 * 2 ^ (ji19).toNat)) = ji21 := shl_small hji21
                              have hji21u : (IntKind.i32.wrap (2 ^ min (ji19).toNat 32)) = ji21 := by have h_ := hji21_; rw [Int.one_mul] at h_; exact h_
                              have hji21v : (ji19) ≤ 32 → (IntKind.i32.wrap (2 ^ (ji19).toNat)) = ji21 := fun hle_ => by have h_ := hji21z hle_; rw [Int.one_mul] at h_; exact h_
                              have hji21y : (wrap32 (1 * 2 ^ min (ji19).toNat 32)) = ji21 := (i32_w _).symm.trans hji21_
                              have hji21x : (ji19) ≤ 32 → (wrap32 (1 * 2 ^ (ji19).toNat)) = ji21 := fun h_ => (i32_w _).symm.trans (hji21z h_)
                              simp only [Option.some.injEq, Prod.mk.injEq] at H
                              obtain ⟨rfl, rfl, rfl⟩ := H
                              go_wp2
                              repeat (go_quiet (fail); try go_wp2)
                              go_ret3
                              exact ⟨by first | rfl | (simp; done) | (simp only [← hji19, ← hji21] <;> (first | rfl | simp)) | (simp [*]; done), by repeat (first | exact Drawn0.refl _ | apply Drawn0.step)⟩
                            · rw [if_neg c20] at H
                              exact absurd H (by simp)
                        · rw [if_neg c17] at H
                          have c17b0 : decide (x9_1 ≤ 1114111) = false := decide_eq_false c17
                          clear c17
                          simp only [Option.some.injEq, Prod.mk.injEq] at H
                          obtain ⟨rfl, rfl, rfl⟩ := H
                          go_wp2
                          repeat (go_quiet (fail); try go_wp2)
                          go_ret3
                          exact ⟨by first | rfl | (simp; done) | (simp [*]; done), by repeat (first | exact Drawn0.refl _ | apply Drawn0.step)⟩
                      · rw [if_neg c16] at H
                        have c16b0 : decide (a2 ≤ x9_1) = false := decide_eq_false c16
                        clear c16
                        simp only [Option.some.injEq, Prod.mk.injEq] at H
                        obtain ⟨rfl, rfl, rfl⟩ := H
                        go_wp2
                        repeat (go_quiet (fail); try go_wp2)
                        go_ret3
                        exact ⟨by first | rfl | (simp; done) | (simp [*]; done), by repeat (first | exact Drawn0.refl _ | apply Drawn0.step)⟩
                    · rw [if_neg c15] at H
                      have c15b0 : decide (4 ≤ (wrap64 (x10_1 - a1))) = false := decide_eq_false c15
                      clear c15
                      simp only [Option.some.injEq, Prod.mk.injEq] at H
                      obtain ⟨rfl, rfl, rfl⟩ := H
                      go_wp2
                      repeat (go_quiet (fail); try go_wp2)
                      go_ret3
                      exact ⟨by first | rfl | (simp; done) | (simp [*]; done), by repeat (first | exact Drawn0.refl _ | apply Drawn0.step)⟩
                  · rw [if_neg c14] at H
                    have c14b0 : decide (x11_3 < 0) = false := decide_eq_false c14
                    clear c14
                    replace H := Option.bind_eq_some_iff.mp H
                    obtain ⟨t380, A220, H⟩ := H
                    replace H : (if t380 = true then (posternref07_number.l0 k3 a0 a1 a2 (wrap32 ((wrap32 (16 * x9_1)) + x11_3)) (wrap64 (x10_1 + 1))) else (if (wrap64 (x10_1 - a1)) ≥ 4 then (if x9_1 ≥ a2 then (if x9_1 ≤ 1114111 then (if (wrap64 (x10_1 - a1)) = 4 then (some (x10_1, x9_1, true)) else (if 0 ≤ (IntKind.u64.wrap (wrap64 (4 * (wrap64 ((wrap64 (x10_1 - a1)) - 1))))) then (some (x10_1, x9_1, decide (x9_1 ≥ (shl .i32 1 (IntKind.u64.wrap (wrap64 (4 * (wrap64 ((wrap64 (x10_1 - a1)) - 1))))))))) else (none))) else (some (x10_1, x9_1, false))) else (some (x10_1, x9_1, false))) else (some (x10_1, x9_1, false)))) = some (r1, r2, r3) := H
                    have A22 := Aside0.mk A220
                    clear A220
                    by_cases c23 : t380 = true
                    · subst c23
                      have H1 : (posternref07_number.l0 k3 a0 a1 a2 (wrap32 ((wrap32 (16 * x9_1)) + x11_3)) (wrap64 (x10_1 + 1))) = some (r1, r2, r3) := by rw [if_pos rfl] at H; exact H
                      clear H
                      have H := H1
                      clear H1
                      have H' := Aside0.mk H
                      clear H
                      go_wp2_with (first | (go_at_call 66; (with_reducible refine (posternref07_grows.calls k3 (wrap32 ((wrap32 (16 * x9_1)) + x11_3)) (wrap64 ((wrap64 (x10_1 - a1)) + 1)) a2 true _ A22.out).mono ?_); rintro e w' ⟨rfl, ⟨nd, rfl⟩⟩; (try first | exact ⟨rfl, _, World.drewN_drewN _ _ _⟩ | exact ⟨rfl, _, Eq.trans (World.drewN_drewN _ _ _) (congrArg (World.drewN _) (Nat.add_assoc _ _ _))⟩)))
                      repeat (go_quiet (first | (go_at_call 66; (with_reducible refine (posternref07_grows.calls k3 (wrap32 ((wrap32 (16 * x9_1)) + x11_3)) (wrap64 ((wrap64 (x10_1 - a1)) + 1)) a2 true _ A22.out).mono ?_); rintro e w' ⟨rfl, ⟨nd, rfl⟩⟩; (try first | exact ⟨rfl, _, World.drewN_drewN _ _ _⟩ | exact ⟨rfl, _, Eq.trans (World.drewN_drewN _ _ _) (congrArg (World.drewN _) (Nat.add_assoc _ _ _))⟩))); try go_wp2_with (first | (go_at_call 66; (with_reducible refine (posternref07_grows.calls k3 (wrap32 ((wrap32 (16 * x9_1)) + x11_3)) (wrap64 ((wrap64 (x10_1 - a1)) + 1)) a2 true _ A22.out).mono ?_); rintro e w' ⟨rfl, ⟨nd, rfl⟩⟩; (try first | exact ⟨rfl, _, World.drewN_drewN _ _ _⟩ | exact ⟨rfl, _, Eq.trans (World.drewN_drewN _ _ _) (congrArg (World.drewN _) (Nat.add_assoc _ _ _))⟩))))
                      go_roundg k3
                      case measure => have := HK1.out; have := HJ3.out; have := HK3.out; omega
                      case rel => exact ⟨(wrap32 ((wrap32 (16 * x9_1)) + x11_3)), (wrap64 (x10_1 + 1)), (by first | rfl | (simp; done) | (simp [*]; done)), (by first | rfl | (simp; done) | (simp [*]; done)), H', ⟨by have := HK1.out; have := HJ3.out; have := HK3.out; omega⟩, by repeat (first | exact Drawn0.refl _ | apply Drawn0.step)⟩
                    · replace c23 := Bool.eq_false_iff.mpr c23
                      subst c23
                      have H1 : (if (wrap64 (x10_1 - a1)) ≥ 4 then (if x9_1 ≥ a2 then (if x9_1 ≤ 1114111 then (if (wrap64 (x10_1 - a1)) = 4 then (some (x10_1, x9_1, true)) else (if 0 ≤ (IntKind.u64.wrap (wrap64 (4 * (wrap64 ((wrap64 (x10_1 - a1)) - 1))))) then (some (x10_1, x9_1, decide (x9_1 ≥ (shl .i32 1 (IntKind.u64.wrap (wrap64 (4 * (wrap64 ((wrap64 (x10_1 - a1)) - 1))))))))) else (none))) else (some (x10_1, x9_1, false))) else (some (x10_1, x9_1, false))) else (some (x10_1, x9_1, false))) = some (r1, r2, r3) := by rw [if_neg (show ¬ (false = true) by decide)] at H; exact H
                      clear H
                      have H := H1
                      clear H1
                      by_cases c24 : (wrap64 (x10_1 - a1)) ≥ 4
                      · rw [if_pos c24] at H
                        have c24b0 : decide (4 ≤ (wrap64 (x10_1 - a1))) = true := decide_eq_true c24
                        clear c24
                        by_cases c25 : x9_1 ≥ a2
                        · rw [if_pos c25] at H
                          have c25b0 : decide (a2 ≤ x9_1) = true := decide_eq_true c25
                          clear c25
                          by_cases c26 : x9_1 ≤ 1114111
                          · rw [if_pos c26] at H
                            have c26b0 : decide (x9_1 ≤ 1114111) = true := decide_eq_true c26
                            clear c26
                            by_cases c27 : (wrap64 (x10_1 - a1)) = 4
                            · rw [if_pos c27] at H
                              have c27b0 : ((wrap64 (x10_1 - a1)) == 4) = true := beq_iff_eq.mpr c27
                              have c27b1 : ((wrap64 (x10_1 - a1)) != 4) = false := bne_eq_false_iff_eq.mpr c27
                              clear c27
                              simp only [Option.some.injEq, Prod.mk.injEq] at H
                              obtain ⟨rfl, rfl, rfl⟩ := H
                              go_wp2_with (first | (go_at_call 66; (with_reducible refine (posternref07_grows.calls k3 (wrap32 ((wrap32 (16 * x9_1)) + x11_3)) (wrap64 ((wrap64 (x10_1 - a1)) + 1)) a2 false _ A22.out).mono ?_); rintro e w' ⟨rfl, ⟨nd, rfl⟩⟩; (try first | exact ⟨rfl, _, World.drewN_drewN _ _ _⟩ | exact ⟨rfl, _, Eq.trans (World.drewN_drewN _ _ _) (congrArg (World.drewN _) (Nat.add_assoc _ _ _))⟩)))
                              repeat (go_quiet (first | (go_at_call 66; (with_reducible refine (posternref07_grows.calls k3 (wrap32 ((wrap32 (16 * x9_1)) + x11_3)) (wrap64 ((wrap64 (x10_1 - a1)) + 1)) a2 false _ A22.out).mono ?_); rintro e w' ⟨rfl, ⟨nd, rfl⟩⟩; (try first | exact ⟨rfl, _, World.drewN_drewN _ _ _⟩ | exact ⟨rfl, _, Eq.trans (World.drewN_drewN _ _ _) (congrArg (World.drewN _) (Nat.add_assoc _ _ _))⟩))); try go_wp2_with (first | (go_at_call 66; (with_reducible refine (posternref07_grows.calls k3 (wrap32 ((wrap32 (16 * x9_1)) + x11_3)) (wrap64 ((wrap64 (x10_1 - a1)) + 1)) a2 false _ A22.out).mono ?_); rintro e w' ⟨rfl, ⟨nd, rfl⟩⟩; (try first | exact ⟨rfl, _, World.drewN_drewN _ _ _⟩ | exact ⟨rfl, _, Eq.trans (World.drewN_drewN _ _ _) (congrArg (World.drewN _) (Nat.add_assoc _ _ _))⟩))))
                              go_ret3
                              exact ⟨by first | rfl | (simp; done) | (simp [*]; done), by repeat (first | exact Drawn0.refl _ | apply Drawn0.step)⟩
                            · rw [if_neg c27] at H
                              have c27b0 : ((wrap64 (x10_1 - a1)) == 4) = false := beq_eq_false_iff_ne.mpr c27
                              have c27b1 : ((wrap64 (x10_1 - a1)) != 4) = true := bne_iff_ne.mpr c27
                              obtain ⟨ji28, hji28⟩ : ∃ j_ : Int, (IntKind.u64.wrap (wrap64 (4 * (wrap64 ((wrap64 (x10_1 - a1)) - 1))))) = j_ := ⟨_, rfl⟩
                              replace H : (if 0 ≤ (ji28) then (some (x10_1, x9_1, decide (x9_1 ≥ (shl .i32 1 (ji28))))) else (none)) = some (r1, r2, r3) := by first | (rw [hji28] at H; exact H) | (simp only [hji28] at H ⊢; exact H)
                              (try rw [hji28] at A22)
                              by_cases c29 : 0 ≤ (ji28)
                              · rw [if_pos c29] at H
                                have c29b0 := eq_true c29
                                have c29b1 : decide (0 ≤ (ji28)) = true := decide_eq_true c29
                                clear c29
                                obtain ⟨ji30, hji30⟩ : ∃ j_ : Int, (shl .i32 1 (ji28)) = j_ := ⟨_, rfl⟩
                                replace H : (some (x10_1, x9_1, decide (x9_1 ≥ (ji30)))) = some (r1, r2, r3) := by first | (rw [hji30] at H; exact H) | (simp only [hji30] at H ⊢; exact H)
                                (try rw [hji30] at A22)
                                have hji30_ : (IntKind.i32.wrap (1 * 2 ^ min (ji28).toNat 32)) = ji30 := hji30
                                have hji30z : (ji28) ≤ 32 → (IntKind.i32.wrap (1 * 2 ^ (ji28).toNat)) = ji30 := shl_small hji30
                                have hji30u : (IntKind.i32.wrap (2 ^ min (ji28).toNat 32)) = ji30 := by have h_ := hji30_; rw [Int.one_mul] at h_; exact h_
                                have hji30v : (ji28) ≤ 32 → (IntKind.i32.wrap (2 ^ (ji28).toNat)) = ji30 := fun hle_ => by have h_ := hji30z hle_; rw [Int.one_mul] at h_; exact h_
                                have hji30y : (wrap32 (1 * 2 ^ min (ji28).toNat 32)) = ji30 := (i32_w _).symm.trans hji30_
                                have hji30x : (ji28) ≤ 32 → (wrap32 (1 * 2 ^ (ji28).toNat)) = ji30 := fun h_ => (i32_w _).symm.trans (hji30z h_)
                                simp only [Option.some.injEq, Prod.mk.injEq] at H
                                obtain ⟨rfl, rfl, rfl⟩ := H
                                go_wp2_with (first | (go_at_call 66; (with_reducible refine (posternref07_grows.calls k3 (wrap32 ((wrap32 (16 * x9_1)) + x11_3)) (wrap64 ((wrap64 (x10_1 - a1)) + 1)) a2 false _ A22.out).mono ?_); rintro e w' ⟨rfl, ⟨nd, rfl⟩⟩; (try first | exact ⟨rfl, _, World.drewN_drewN _ _ _⟩ | exact ⟨rfl, _, Eq.trans (World.drewN_drewN _ _ _) (congrArg (World.drewN _) (Nat.add_assoc _ _ _))⟩)))
                                repeat (go_quiet (first | (go_at_call 66; (with_reducible refine (posternref07_grows.calls k3 (wrap32 ((wrap32 (16 * x9_1)) + x11_3)) (wrap64 ((wrap64 (x10_1 - a1)) + 1)) a2 false _ A22.out).mono ?_); rintro e w' ⟨rfl, ⟨nd, rfl⟩⟩; (try first | exact ⟨rfl, _, World.drewN_drewN _ _ _⟩ | exact ⟨rfl, _, Eq.trans (World.drewN_drewN _ _ _) (congrArg (World.drewN _) (Nat.add_assoc _ _ _))⟩))); try go_wp2_with (first | (go_at_call 66; (with_reducible refine (posternref07_grows.calls k3 (wrap32 ((wrap32 (16 * x9_1)) + x11_3)) (wrap64 ((wrap64 (x10_1 - a1)) + 1)) a2 false _ A22.out).mono ?_); rintro e w' ⟨rfl, ⟨nd, rfl⟩⟩; (try first | exact ⟨rfl, _, World.drewN_drewN _ _ _⟩ | exact ⟨rfl, _, Eq.trans (World.drewN_drewN _ _ _) (congrArg (World.drewN _) (Nat.add_assoc _ _ _))⟩))))
                                go_ret3
                                exact ⟨by first | rfl | (simp; done) | (simp only [← hji28, ← hji30] <;> (first | rfl | simp)) | (simp [*]; done), by repeat (first | exact Drawn0.refl _ | apply Drawn0.step)⟩
                              · rw [if_neg c29] at H
                                exact absurd H (by simp)
                          · rw [if_neg c26] at H
                            have c26b0 : decide (x9_1 ≤ 1114111) = false := decide_eq_false c26
                            clear c26
                            simp only [Option.some.injEq, Prod.mk.injEq] at H
                            obtain ⟨rfl, rfl, rfl⟩ := H
                            go_wp2_with (first | (go_at_call 66; (with_reducible refine (posternref07_grows.calls k3 (wrap32 ((wrap32 (16 * x9_1)) + x11_3)) (wrap64 ((wrap64 (x10_1 - a1)) + 1)) a2 false _ A22.out).mono ?_); rintro e w' ⟨rfl, ⟨nd, rfl⟩⟩; (try first | exact ⟨rfl, _, World.drewN_drewN _ _ _⟩ | exact ⟨rfl, _, Eq.trans (World.drewN_drewN _ _ _) (congrArg (World.drewN _) (Nat.add_assoc _ _ _))⟩)))
                            repeat (go_quiet (first | (go_at_call 66; (with_reducible refine (posternref07_grows.calls k3 (wrap32 ((wrap32 (16 * x9_1)) + x11_3)) (wrap64 ((wrap64 (x10_1 - a1)) + 1)) a2 false _ A22.out).mono ?_); rintro e w' ⟨rfl, ⟨nd, rfl⟩⟩; (try first | exact ⟨rfl, _, World.drewN_drewN _ _ _⟩ | exact ⟨rfl, _, Eq.trans (World.drewN_drewN _ _ _) (congrArg (World.drewN _) (Nat.add_assoc _ _ _))⟩))); try go_wp2_with (first | (go_at_call 66; (with_reducible refine (posternref07_grows.calls k3 (wrap32 ((wrap32 (16 * x9_1)) + x11_3)) (wrap64 ((wrap64 (x10_1 - a1)) + 1)) a2 false _ A22.out).mono ?_); rintro e w' ⟨rfl, ⟨nd, rfl⟩⟩; (try first | exact ⟨rfl, _, World.drewN_drewN _ _ _⟩ | exact ⟨rfl, _, Eq.trans (World.drewN_drewN _ _ _) (congrArg (World.drewN _) (Nat.add_assoc _ _ _))⟩))))
                            go_ret3
                            exact ⟨by first | rfl | (simp; done) | (simp [*]; done), by repeat (first | exact Drawn0.refl _ | apply Drawn0.step)⟩
                        · rw [if_neg c25] at H
                          have c25b0 : decide (a2 ≤ x9_1) = false := decide_eq_false c25
                          clear c25
                          simp only [Option.some.injEq, Prod.mk.injEq] at H
                          obtain ⟨rfl, rfl, rfl⟩ := H
                          go_wp2_with (first | (go_at_call 66; (with_reducible refine (posternref07_grows.calls k3 (wrap32 ((wrap32 (16 * x9_1)) + x11_3)) (wrap64 ((wrap64 (x10_1 - a1)) + 1)) a2 false _ A22.out).mono ?_); rintro e w' ⟨rfl, ⟨nd, rfl⟩⟩; (try first | exact ⟨rfl, _, World.drewN_drewN _ _ _⟩ | exact ⟨rfl, _, Eq.trans (World.drewN_drewN _ _ _) (congrArg (World.drewN _) (Nat.add_assoc _ _ _))⟩)))
                          repeat (go_quiet (first | (go_at_call 66; (with_reducible refine (posternref07_grows.calls k3 (wrap32 ((wrap32 (16 * x9_1)) + x11_3)) (wrap64 ((wrap64 (x10_1 - a1)) + 1)) a2 false _ A22.out).mono ?_); rintro e w' ⟨rfl, ⟨nd, rfl⟩⟩; (try first | exact ⟨rfl, _, World.drewN_drewN _ _ _⟩ | exact ⟨rfl, _, Eq.trans (World.drewN_drewN _ _ _) (congrArg (World.drewN _) (Nat.add_assoc _ _ _))⟩))); try go_wp2_with (first | (go_at_call 66; (with_reducible refine (posternref07_grows.calls k3 (wrap32 ((wrap32 (16 * x9_1)) + x11_3)) (wrap64 ((wrap64 (x10_1 - a1)) + 1)) a2 false _ A22.out).mono ?_); rintro e w' ⟨rfl, ⟨nd, rfl⟩⟩; (try first | exact ⟨rfl, _, World.drewN_drewN _ _ _⟩ | exact ⟨rfl, _, Eq.trans (World.drewN_drewN _ _ _) (congrArg (World.drewN _) (Nat.add_assoc _ _ _))⟩))))
                          go_ret3
                          exact ⟨by first | rfl | (simp; done) | (simp [*]; done), by repeat (first | exact Drawn0.refl _ | apply Drawn0.step)⟩
                      · rw [if_neg c24] at H
                        have c24b0 : decide (4 ≤ (wrap64 (x10_1 - a1))) = false := decide_eq_false c24
                        clear c24
                        simp only [Option.some.injEq, Prod.mk.injEq] at H
                        obtain ⟨rfl, rfl, rfl⟩ := H
                        go_wp2_with (first | (go_at_call 66; (with_reducible refine (posternref07_grows.calls k3 (wrap32 ((wrap32 (16 * x9_1)) + x11_3)) (wrap64 ((wrap64 (x10_1 - a1)) + 1)) a2 false _ A22.out).mono ?_); rintro e w' ⟨rfl, ⟨nd, rfl⟩⟩; (try first | exact ⟨rfl, _, World.drewN_drewN _ _ _⟩ | exact ⟨rfl, _, Eq.trans (World.drewN_drewN _ _ _) (congrArg (World.drewN _) (Nat.add_assoc _ _ _))⟩)))
                        repeat (go_quiet (first | (go_at_call 66; (with_reducible refine (posternref07_grows.calls k3 (wrap32 ((wrap32 (16 * x9_1)) + x11_3)) (wrap64 ((wrap64 (x10_1 - a1)) + 1)) a2 false _ A22.out).mono ?_); rintro e w' ⟨rfl, ⟨nd, rfl⟩⟩; (try first | exact ⟨rfl, _, World.drewN_drewN _ _ _⟩ | exact ⟨rfl, _, Eq.trans (World.drewN_drewN _ _ _) (congrArg (World.drewN _) (Nat.add_assoc _ _ _))⟩))); try go_wp2_with (first | (go_at_call 66; (with_reducible refine (posternref07_grows.calls k3 (wrap32 ((wrap32 (16 * x9_1)) + x11_3)) (wrap64 ((wrap64 (x10_1 - a1)) + 1)) a2 false _ A22.out).mono ?_); rintro e w' ⟨rfl, ⟨nd, rfl⟩⟩; (try first | exact ⟨rfl, _, World.drewN_drewN _ _ _⟩ | exact ⟨rfl, _, Eq.trans (World.drewN_drewN _ _ _) (congrArg (World.drewN _) (Nat.add_assoc _ _ _))⟩))))
                        go_ret3
                        exact ⟨by first | rfl | (simp; done) | (simp [*]; done), by repeat (first | exact Drawn0.refl _ | apply Drawn0.step)⟩
          · replace c6 := Bool.eq_false_iff.mpr c6
            subst c6
            have H1 : (if (wrap64 (x10_1 - a1)) ≥ 4 then (if x9_1 ≥ a2 then (if x9_1 ≤ 1114111 then (if (wrap64 (x10_1 - a1)) = 4 then (some (x10_1, x9_1, true)) else (if 0 ≤ (IntKind.u64.wrap (wrap64 (4 * (wrap64 ((wrap64 (x10_1 - a1)) - 1))))) then (some (x10_1, x9_1, decide (x9_1 ≥ (shl .i32 1 (IntKind.u64.wrap (wrap64 (4 * (wrap64 ((wrap64 (x10_1 - a1)) - 1))))))))) else (none))) else (some (x10_1, x9_1, false))) else (some (x10_1, x9_1, false))) else (some (x10_1, x9_1, false))) = some (r1, r2, r3) := by rw [if_neg (show ¬ (false = true) by decide)] at H; exact H
            clear H
            have H := H1
            clear H1
            by_cases c31 : (wrap64 (x10_1 - a1)) ≥ 4
            · rw [if_pos c31] at H
              have c31b0 : decide (4 ≤ (wrap64 (x10_1 - a1))) = true := decide_eq_true c31
              clear c31
              by_cases c32 : x9_1 ≥ a2
              · rw [if_pos c32] at H
                have c32b0 : decide (a2 ≤ x9_1) = true := decide_eq_true c32
                clear c32
                by_cases c33 : x9_1 ≤ 1114111
                · rw [if_pos c33] at H
                  have c33b0 : decide (x9_1 ≤ 1114111) = true := decide_eq_true c33
                  clear c33
                  by_cases c34 : (wrap64 (x10_1 - a1)) = 4
                  · rw [if_pos c34] at H
                    have c34b0 : ((wrap64 (x10_1 - a1)) == 4) = true := beq_iff_eq.mpr c34
                    have c34b1 : ((wrap64 (x10_1 - a1)) != 4) = false := bne_eq_false_iff_eq.mpr c34
                    clear c34
                    simp only [Option.some.injEq, Prod.mk.injEq] at H
                    obtain ⟨rfl, rfl, rfl⟩ := H
                    go_wp2
                    repeat (go_quiet (fail); try go_wp2)
                    go_ret3
                    exact ⟨by first | rfl | (simp; done) | (simp [*]; done), by repeat (first | exact Drawn0.refl _ | apply Drawn0.step)⟩
                  · rw [if_neg c34] at H
                    have c34b0 : ((wrap64 (x10_1 - a1)) == 4) = false := beq_eq_false_iff_ne.mpr c34
                    have c34b1 : ((wrap64 (x10_1 - a1)) != 4) = true := bne_iff_ne.mpr c34
                    obtain ⟨ji35, hji35⟩ : ∃ j_ : Int, (IntKind.u64.wrap (wrap64 (4 * (wrap64 ((wrap64 (x10_1 - a1)) - 1))))) = j_ := ⟨_, rfl⟩
                    replace H : (if 0 ≤ (ji35) then (some (x10_1, x9_1, decide (x9_1 ≥ (shl .i32 1 (ji35))))) else (none)) = some (r1, r2, r3) := by first | (rw [hji35] at H; exact H) | (simp only [hji35] at H ⊢; exact H)
                    by_cases c36 : 0 ≤ (ji35)
                    · rw [if_pos c36] at H
                      have c36b0 := eq_true c36
                      have c36b1 : decide (0 ≤ (ji35)) = true := decide_eq_true c36
                      clear c36
                      obtain ⟨ji37, hji37⟩ : ∃ j_ : Int, (shl .i32 1 (ji35)) = j_ := ⟨_, rfl⟩
                      replace H : (some (x10_1, x9_1, decide (x9_1 ≥ (ji37)))) = some (r1, r2, r3) := by first | (rw [hji37] at H; exact H) | (simp only [hji37] at H ⊢; exact H)
                      have hji37_ : (IntKind.i32.wrap (1 * 2 ^ min (ji35).toNat 32)) = ji37 := hji37
                      have hji37z : (ji35) ≤ 32 → (IntKind.i32.wrap (1 * 2 ^ (ji35).toNat)) = ji37 := shl_small hji37
                      have hji37u : (IntKind.i32.wrap (2 ^ min (ji35).toNat 32)) = ji37 := by have h_ := hji37_; rw [Int.one_mul] at h_; exact h_
                      have hji37v : (ji35) ≤ 32 → (IntKind.i32.wrap (2 ^ (ji35).toNat)) = ji37 := fun hle_ => by have h_ := hji37z hle_; rw [Int.one_mul] at h_; exact h_
                      have hji37y : (wrap32 (1 * 2 ^ min (ji35).toNat 32)) = ji37 := (i32_w _).symm.trans hji37_
                      have hji37x : (ji35) ≤ 32 → (wrap32 (1 * 2 ^ (ji35).toNat)) = ji37 := fun h_ => (i32_w _).symm.trans (hji37z h_)
                      simp only [Option.some.injEq, Prod.mk.injEq] at H
                      obtain ⟨rfl, rfl, rfl⟩ := H
                      go_wp2
                      repeat (go_quiet (fail); try go_wp2)
                      go_ret3
                      exact ⟨by first | rfl | (simp; done) | (simp only [← hji35, ← hji37] <;> (first | rfl | simp)) | (simp [*]; done), by repeat (first | exact Drawn0.refl _ | apply Drawn0.step)⟩
                    · rw [if_neg c36] at H
                      exact absurd H (by simp)
                · rw [if_neg c33] at H
                  have c33b0 : decide (x9_1 ≤ 1114111) = false := decide_eq_false c33
                  clear c33
                  simp only [Option.some.injEq, Prod.mk.injEq] at H
                  obtain ⟨rfl, rfl, rfl⟩ := H
                  go_wp2
                  repeat (go_quiet (fail); try go_wp2)
                  go_ret3
                  exact ⟨by first | rfl | (simp; done) | (simp [*]; done), by repeat (first | exact Drawn0.refl _ | apply Drawn0.step)⟩
              · rw [if_neg c32] at H
                have c32b0 : decide (a2 ≤ x9_1) = false := decide_eq_false c32
                clear c32
                simp only [Option.some.injEq, Prod.mk.injEq] at H
                obtain ⟨rfl, rfl, rfl⟩ := H
                go_wp2
                repeat (go_quiet (fail); try go_wp2)
                go_ret3
                exact ⟨by first | rfl | (simp; done) | (simp [*]; done), by repeat (first | exact Drawn0.refl _ | apply Drawn0.step)⟩
            · rw [if_neg c31] at H
              have c31b0 : decide (4 ≤ (wrap64 (x10_1 - a1))) = false := decide_eq_false c31
              clear c31
              simp only [Option.some.injEq, Prod.mk.injEq] at H
              obtain ⟨rfl, rfl, rfl⟩ := H
              go_wp2
              repeat (go_quiet (fail); try go_wp2)
              go_ret3
              exact ⟨by first | rfl | (simp; done) | (simp [*]; done), by repeat (first | exact Drawn0.refl _ | apply Drawn0.step)⟩

end Go.Proofs.Ytkpdccegamcppaa.PSpan
