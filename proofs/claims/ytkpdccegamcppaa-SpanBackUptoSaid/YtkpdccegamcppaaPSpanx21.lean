-- Written by a program of this session, over the words of the kit's print.
import Derived.Test.YtkpdccegamcppaaPSpanx0
import Derived.Test.YtkpdccegamcppaaPSpanx20
import Derived.Test.YtkpdccegamcppaaXPoints
namespace Go.Proofs.Ytkpdccegamcppaa.PSpan
open Go.RowKit Go.Proofs.YtkpdccegamcppaaW.PrintWords Go.Proofs.YtkpdccegamcppaaW.PrintLast Go.Proofs.YtkpdccegamcppaaW.PrintMore
attribute [local go_sem] max2_int min2_int max_two min_two max_three min_three max_four min_four   -- for this text's walks alone
set_option linter.unusedVariables false
set_option linter.unusedSimpArgs false

/-! ### span_reader_span: function 55 -/
def span_reader_span.j0 : Nat → Int → Int → Bool → ByteArray → Int → Option (Int × Int × Bool × ByteArray × Int)
  | 0, _, _, _, _, _ => none
  | k + 1, x6, x8, x24, x1000, x1001 => if x24 = true then ((span_reader_point.f k x1000 x1001 (wrap32 (x6 + 1))).bind fun bt376 => (if bt376.2.1 = true then (some (x6, bt376.1, true, bt376.2.2.1, bt376.2.2.2)) else (some (0, 0, false, bt376.2.2.1, bt376.2.2.2)))) else (some (x6, x8, true, x1000, x1001))
def span_reader_span.f (k : Nat) (s0_0 : ByteArray) (s0_1 : Int) (a1 : Int) : Option (Int × Int × Bool × ByteArray × Int) := (span_reader_point.f k s0_0 s0_1 a1).bind fun bt369 => (if bt369.2.1 = true then (if bt369.1 < 1114111 then ((span_reader_sign.f bt369.2.2.1 bt369.2.2.2 45).bind fun bt373 => (span_reader_span.j0 k bt369.1 bt369.1 bt373.1 bt373.2.1 bt373.2.2)) else (span_reader_span.j0 k bt369.1 bt369.1 false bt369.2.2.1 bt369.2.2.2)) else (some (0, 0, false, bt369.2.2.1, bt369.2.2.2)))
theorem span_reader_span.mono_l : ∀ k, (∀ y0 y1 y2 y3 y4, LeO (span_reader_span.j0 k y0 y1 y2 y3 y4) (span_reader_span.j0 (k + 1) y0 y1 y2 y3 y4))
  | 0 => fun _ _ _ _ _ r h => by simp [span_reader_span.j0] at h
  | k + 1 => by
    have ih0 := span_reader_span.mono_l k
    · intro y0 y1 y2 y3 y4
      unfold span_reader_span.j0
      repeat' first
      | (with_reducible exact ih0 _ _ _ _ _)
      | (with_reducible exact span_reader_point.mono _ _ _ _)
      | (with_reducible exact LeO.refl _)
      | (with_reducible exact LeO.none _)
      | (with_reducible refine LeO.ite ?_ ?_)
      | (with_reducible refine LeO.bind ?_ (fun _ => ?_))
      | exact ih0 _ _ _ _ _
      | exact span_reader_point.mono _ _ _ _
      | exact LeO.none _
      | refine LeO.ite ?_ ?_
      | refine LeO.bind ?_ (fun _ => ?_)
theorem span_reader_span.mono : ∀ a0 a1 a2 k, LeO (span_reader_span.f k a0 a1 a2) (span_reader_span.f (k + 1) a0 a1 a2) := by
  intro a0 a1 a2 k
  have ih0 := span_reader_span.mono_l k
  unfold span_reader_span.f
  repeat' first
      | (with_reducible exact ih0 _ _ _ _ _)
      | (with_reducible exact span_reader_point.mono _ _ _ _)
      | (with_reducible exact LeO.refl _)
      | (with_reducible exact LeO.none _)
      | (with_reducible refine LeO.ite ?_ ?_)
      | (with_reducible refine LeO.bind ?_ (fun _ => ?_))
      | exact ih0 _ _ _ _ _
      | exact span_reader_point.mono _ _ _ _
      | exact LeO.none _
      | refine LeO.ite ?_ ?_
      | refine LeO.bind ?_ (fun _ => ?_)
set_option maxHeartbeats 8000000 in
set_option maxRecDepth 100000 in
theorem span_reader_span.calls (k : Nat) (g : Nat) (s0_0 : ByteArray) (s0_1 : Int) (a1 : Int) (r1 : Int) (r2 : Int) (r3 : Bool) (r4 : ByteArray) (r5 : Int) (w0 w : World) (hI : IsS83 w0 w g s0_0 s0_1) (hB : Below w0.heap.size w0 w) (h : span_reader_span.f k s0_0 s0_1 a1 = some (r1, r2, r3, r4, r5)) :
    Calls Try.prog 55 #[.pointer (some ⟨g, 0, none⟩), .int .i32 a1] w fun e w' => e = .returned (.tuple #[.agg #[.int .i32 r1, .int .i32 r2], .bool r3]) ∧ IsS83 w0 w' g r4 r5 ∧ Below w0.heap.size w0 w' ∧ KeepBut w w' g none := by
  have hu50 := Try.underlying50
  have HI0 := Aside0.mk hI
  have HK := Aside0.mk (KeepBut.refl w g none)
  have HL := Aside0.mk hB.size
  clear hI
  have HW0 := Aside0.mk hB.size
  have HB := Aside0.mk hB
  clear hB
  have H : ((span_reader_point.f k s0_0 s0_1 a1).bind fun bt369 => (if bt369.2.1 = true then (if bt369.1 < 1114111 then ((span_reader_sign.f bt369.2.2.1 bt369.2.2.2 45).bind fun bt373 => (span_reader_span.j0 k bt369.1 bt369.1 bt373.1 bt373.2.1 bt373.2.2)) else (span_reader_span.j0 k bt369.1 bt369.1 false bt369.2.2.1 bt369.2.2.2)) else (some (0, 0, false, bt369.2.2.1, bt369.2.2.2)))) = some (r1, r2, r3, r4, r5) := h
  clear h
  replace H := Option.bind_eq_some_iff.mp H
  obtain ⟨⟨t369, t370, t371, t372⟩, A30, H⟩ := H
  replace H : (if t370 = true then (if t369 < 1114111 then ((span_reader_sign.f t371 t372 45).bind fun bt373 => (span_reader_span.j0 k t369 t369 bt373.1 bt373.2.1 bt373.2.2)) else (span_reader_span.j0 k t369 t369 false t371 t372)) else (some (0, 0, false, t371, t372))) = some (r1, r2, r3, r4, r5) := H
  have A3 := Aside0.mk A30
  clear A30
  by_cases c4 : t370 = true
  · subst c4
    have H1 : (if t369 < 1114111 then ((span_reader_sign.f t371 t372 45).bind fun bt373 => (span_reader_span.j0 k t369 t369 bt373.1 bt373.2.1 bt373.2.2)) else (span_reader_span.j0 k t369 t369 false t371 t372)) = some (r1, r2, r3, r4, r5) := by rw [if_pos rfl] at H; exact H
    clear H
    have H := H1
    clear H1
    have HC5 := Aside0.mk H
    clear H
    go_enter Try.func55, Try.ntmps55
    go_upto_region 5 with (first | ((with_reducible refine gate_dst (N := 4) rfl ?_); refine box_event ?hg (N := 4) ?hd (cs := #[.int .i32 0, .int .i32 0]) (t := 50) ?hr ?_; (case hd => rfl); (case hg => rfl); (case hr => first | (go_simp; done) | (go_simp; rfl)); intro gb368 hg w6 hbox hb; have n0_ := Aside0.mk (IsS83.below (by repeat (first | (with_reducible first | exact HI0.out | apply IsS83.alloc | apply IsS83.drewN | apply IsS83.drew | apply IsS83.set_0 | apply IsS83.set_1) | exact HI0.out)) hb); have n1_ := Aside0.mk (KeepBut.trans (by repeat (first | (with_reducible first | exact HK.out | apply KeepBut.set_ | apply keep_drewN | apply keep_drew | apply keep_alloc) | exact HK.out)) (KeepBut.of_below hb g none) (.inl rfl)); have n2_ := Aside0.mk (below_step (by repeat (first | (with_reducible first | exact HB.out | apply below_alloc | apply pw_below_drewN | apply below_drew1 | refine below_set ?_ (IsS83.ge HI0.out)) | exact HB.out)) hb); have n3_ := Aside0.mk (hbox); have n4_ := Aside0.mk ((by rw [hg]; exact (keep_size (w := w) (g := g) (row := none) (by repeat (first | (with_reducible first | exact HK.out | apply KeepBut.set_ | apply keep_drewN | apply keep_drew | apply keep_alloc) | exact HK.out))) : w.heap.size ≤ gb368)); have n5_ := Aside0.mk ((Nat.le_trans HW0.out (by rw [hg]; exact (keep_size (w := w) (g := g) (row := none) (by repeat (first | (with_reducible first | exact HK.out | apply KeepBut.set_ | apply keep_drewN | apply keep_drew | apply keep_alloc) | exact HK.out))) : w.heap.size ≤ gb368) : w0.heap.size ≤ gb368)); have n6_ := Aside0.mk ((by rw [hg]; exact Nat.ne_of_lt (IsS83.lt (show IsS83 w0 _ g s0_0 s0_1 from by repeat (first | (with_reducible first | exact HI0.out | apply IsS83.alloc | apply IsS83.drewN | apply IsS83.drew | apply IsS83.set_0 | apply IsS83.set_1) | exact HI0.out))) : g ≠ gb368)); have n7_ := Aside0.mk ((by rw [hg]; exact Nat.ne_of_gt (IsS83.lt (show IsS83 w0 _ g s0_0 s0_1 from by repeat (first | (with_reducible first | exact HI0.out | apply IsS83.alloc | apply IsS83.drewN | apply IsS83.drew | apply IsS83.set_0 | apply IsS83.set_1) | exact HI0.out))) : gb368 ≠ g)); clear HI0; clear HK; clear HB; have HI0 := n0_; have HK := n1_; have HB := n2_; have BK368 := n3_; have GW368 := n4_; have GE368 := n5_; have NB0_368 := n6_; have NB368_0 := n7_; clear n0_ n1_ n2_ n3_ n4_ n5_ n6_ n7_; clear hb hbox hg) | ((with_reducible refine gate_callee (f := 65) rfl ?_); refine goesL_ (some 12) rfl rfl Try.func65 (by kernel_rfl) rfl #[.pointer (some ⟨g, 0, none⟩), .int .i32 a1] rfl (by (try simp only [List.map_toArray, List.map_cons, List.map_nil]); first | done | rfl | (simp only [List.length_drop, List.length_take]; rfl)) ?_; (with_reducible refine (span_reader_point.calls k g s0_0 s0_1 a1 t369 true t371 t372 w0 _ ?side1 ?side2 A3.out).mono ?_); (case side1 => repeat (first | (with_reducible first | exact HI0.out | apply IsS83.alloc | apply IsS83.drewN | apply IsS83.drew | apply IsS83.set_0 | apply IsS83.set_1 | refine IsS83.far ?_ NB0_368.out _) | exact HI0.out)); (case side2 => repeat (first | (with_reducible first | exact HB.out | apply below_alloc | apply pw_below_drewN | apply below_drew1 | refine below_set ?_ (IsS83.ge HI0.out) | refine below_set ?_ GE368.out) | exact HB.out)); rintro e w7 ⟨rfl, hi, hb, hk⟩; refine ⟨_, rfl, ?_⟩; have n0_ := Aside0.mk (KeepBut.blk hk (g' := gb368) (o := .cells #[.int .i32 0, .int .i32 0] 50 (0, 0)) (by (with_reducible repeat (first | refine blk_drewN ?_ _ | refine blk_drew ?_ | refine blk_alloc ?_ _)); exact BK368.out) NB368_0.out (by simp)); have n1_ := Aside0.mk (KeepBut.trans (by repeat (first | (with_reducible first | exact HK.out | apply KeepBut.set_ | apply keep_drewN | apply keep_drew | apply keep_alloc | refine keep_far ?_ GW368.out _) | exact HK.out)) hk (.inl rfl)); have n2_ := Aside0.mk (hb); have n3_ := Aside0.mk (hi); clear BK368; clear HK; clear HB; clear HI0; have BK368 := n0_; have HK := n1_; have HB := n2_; have HI0 := n3_; clear n0_ n1_ n2_ n3_; (try clear hb); (try clear hb2); (try clear hk); (try clear hi)))
    (try simp only [Act.put, List.setIfInBounds_toArray, List.set_cons_zero, List.set_cons_succ])
    go_cut [24] (fun v24 wc => ∃ (kq : Nat) (x24_4 : Bool) (x1000_4 : ByteArray) (x1001_4 : Int), v24 = .bool x24_4 ∧ Aside0 (span_reader_span.j0 kq t369 t369 x24_4 x1000_4 x1001_4 = some (r1, r2, r3, r4, r5)) ∧ Aside0 (kq ≤ k) ∧ Aside0 (wc.heap[gb368]? = some (.cells #[.int .i32 0, .int .i32 0] 50 (0, 0))) ∧ Aside0 (IsS83 w0 wc g x1000_4 x1001_4) ∧ Aside0 (KeepBut w wc g none) ∧ Aside0 (Below w0.heap.size w0 wc))
    case first =>
      have H := HC5.out
      clear HC5
      by_cases c8 : t369 < 1114111
      · rw [if_pos c8] at H
        have c8b0 : decide (t369 < 1114111) = true := decide_eq_true c8
        clear c8
        (first | rw [c8b0] | (simp only [i64_w, i32_w]; rw [c8b0]) | skip)
        replace H := Option.bind_eq_some_iff.mp H
        obtain ⟨⟨t373, t374, t375⟩, A90, H⟩ := H
        replace H : (span_reader_span.j0 k t369 t369 t373 t374 t375) = some (r1, r2, r3, r4, r5) := H
        have A9 := Aside0.mk A90
        clear A90
        have H' := Aside0.mk H
        clear H
        go_wp2_with (first | (go_at_call 56; (with_reducible refine (span_reader_sign.calls g t371 t372 45 t373 t374 t375 w0 _ ?side1 ?side2 A9.out).mono ?_); (case side1 => repeat (first | (with_reducible first | exact HI0.out | apply IsS83.alloc | apply IsS83.drewN | apply IsS83.drew | apply IsS83.set_0 | apply IsS83.set_1 | refine IsS83.far ?_ NB0_368.out _) | exact HI0.out)); (case side2 => repeat (first | (with_reducible first | exact HB.out | apply below_alloc | apply pw_below_drewN | apply below_drew1 | refine below_set ?_ (IsS83.ge HI0.out) | refine below_set ?_ GE368.out) | exact HB.out)); rintro e w10 ⟨rfl, hi, hb, hk⟩; have n0_ := Aside0.mk (KeepBut.blk hk (g' := gb368) (o := .cells #[.int .i32 0, .int .i32 0] 50 (0, 0)) (by (with_reducible repeat (first | refine blk_drewN ?_ _ | refine blk_drew ?_ | refine blk_alloc ?_ _)); exact BK368.out) NB368_0.out (by simp)); have n1_ := Aside0.mk (KeepBut.trans (by repeat (first | (with_reducible first | exact HK.out | apply KeepBut.set_ | apply keep_drewN | apply keep_drew | apply keep_alloc | refine keep_far ?_ GW368.out _) | exact HK.out)) hk (.inl rfl)); have n2_ := Aside0.mk (hb); have n3_ := Aside0.mk (hi); clear BK368; clear HK; clear HB; clear HI0; have BK368 := n0_; have HK := n1_; have HB := n2_; have HI0 := n3_; clear n0_ n1_ n2_ n3_; (try clear hb); (try clear hb2); (try clear hk); (try clear hi)))
        go_meet
        case rel => exact ⟨_, (t373), (t374), (t375), (by first | rfl | (simp; done) | (simp [*]; done)), H', ⟨by first | omega | exact Nat.le_refl _⟩, ⟨by (with_reducible repeat (first | refine blk_drewN ?_ _ | refine blk_drew ?_ | refine blk_alloc ?_ _)); exact BK368.out⟩, ⟨by repeat (first | (with_reducible first | exact HI0.out | apply IsS83.alloc | apply IsS83.drewN | apply IsS83.drew | apply IsS83.set_0 | apply IsS83.set_1 | refine IsS83.far ?_ NB0_368.out _) | exact HI0.out)⟩, ⟨by repeat (first | (with_reducible first | exact HK.out | apply KeepBut.set_ | apply keep_drewN | apply keep_drew | apply keep_alloc | refine keep_far ?_ GW368.out _) | exact HK.out)⟩, ⟨by repeat (first | (with_reducible first | exact HB.out | apply below_alloc | apply pw_below_drewN | apply below_drew1 | refine below_set ?_ (IsS83.ge HI0.out) | refine below_set ?_ GE368.out) | exact HB.out)⟩⟩
      · rw [if_neg c8] at H
        have c8b0 : decide (t369 < 1114111) = false := decide_eq_false c8
        clear c8
        (first | rw [c8b0] | (simp only [i64_w, i32_w]; rw [c8b0]) | skip)
        have H' := Aside0.mk H
        clear H
        go_wp2
        go_meet
        case rel => exact ⟨_, (false), (t371), (t372), (by first | rfl | (simp; done) | (simp [*]; done)), H', ⟨by first | omega | exact Nat.le_refl _⟩, ⟨by (with_reducible repeat (first | refine blk_drewN ?_ _ | refine blk_drew ?_ | refine blk_alloc ?_ _)); exact BK368.out⟩, ⟨by repeat (first | (with_reducible first | exact HI0.out | apply IsS83.alloc | apply IsS83.drewN | apply IsS83.drew | apply IsS83.set_0 | apply IsS83.set_1 | refine IsS83.far ?_ NB0_368.out _) | exact HI0.out)⟩, ⟨by repeat (first | (with_reducible first | exact HK.out | apply KeepBut.set_ | apply keep_drewN | apply keep_drew | apply keep_alloc | refine keep_far ?_ GW368.out _) | exact HK.out)⟩, ⟨by repeat (first | (with_reducible first | exact HB.out | apply below_alloc | apply pw_below_drewN | apply below_drew1 | refine below_set ?_ (IsS83.ge HI0.out) | refine below_set ?_ GE368.out) | exact HB.out)⟩⟩
    case rest =>
      clear HC5
      try clear p2
      try clear c4
      try clear c5
      try clear c6
      try clear c8
      try clear c8b0
      obtain ⟨kq, x24_4, x1000_4, x1001_4, rfl, HA, HJ4, BK368, HI0, HK, HB⟩ := hcut
      cases kq with
      | zero => exact absurd HA.out (by simp [span_reader_span.j0])
      | succ kj4 =>
        have H := HA.out
        clear HA
        simp only [span_reader_span.j0] at H
        by_cases c11 : x24_4 = true
        · subst c11
          have H1 : ((span_reader_point.f kj4 x1000_4 x1001_4 (wrap32 (t369 + 1))).bind fun bt376 => (if bt376.2.1 = true then (some (t369, bt376.1, true, bt376.2.2.1, bt376.2.2.2)) else (some (0, 0, false, bt376.2.2.1, bt376.2.2.2)))) = some (r1, r2, r3, r4, r5) := by rw [if_pos rfl] at H; exact H
          clear H
          have H := H1
          clear H1
          replace H := Option.bind_eq_some_iff.mp H
          obtain ⟨⟨t376, t377, t378, t379⟩, A120, H⟩ := H
          replace H : (if t377 = true then (some (t369, t376, true, t378, t379)) else (some (0, 0, false, t378, t379))) = some (r1, r2, r3, r4, r5) := H
          have A12 := Aside0.mk A120
          clear A120
          by_cases c13 : t377 = true
          · subst c13
            have H1 : (some (t369, t376, true, t378, t379)) = some (r1, r2, r3, r4, r5) := by rw [if_pos rfl] at H; exact H
            clear H
            have H := H1
            clear H1
            simp only [Option.some.injEq, Prod.mk.injEq] at H
            obtain ⟨rfl, rfl, rfl, rfl, rfl⟩ := H
            go_wp2_with (first | ((with_reducible refine gate_callee (f := 65) rfl ?_); refine goesL_ (some 29) rfl rfl Try.func65 (by kernel_rfl) rfl #[.pointer (some ⟨g, 0, none⟩), .int .i32 (wrap32 (t369 + 1))] rfl (by (try simp only [List.map_toArray, List.map_cons, List.map_nil]); first | done | rfl | (simp only [List.length_drop, List.length_take]; rfl)) ?_; (with_reducible refine (span_reader_point.calls kj4 g x1000_4 x1001_4 (wrap32 (t369 + 1)) t376 true t378 t379 w0 _ ?side1 ?side2 A12.out).mono ?_); (case side1 => repeat (first | (with_reducible first | exact HI0.out | apply IsS83.alloc | apply IsS83.drewN | apply IsS83.drew | apply IsS83.set_0 | apply IsS83.set_1 | refine IsS83.far ?_ NB0_368.out _) | exact HI0.out)); (case side2 => repeat (first | (with_reducible first | exact HB.out | apply below_alloc | apply pw_below_drewN | apply below_drew1 | refine below_set ?_ (IsS83.ge HI0.out) | refine below_set ?_ GE368.out) | exact HB.out)); rintro e w14 ⟨rfl, hi, hb, hk⟩; refine ⟨_, rfl, ?_⟩; have n0_ := Aside0.mk (KeepBut.blk hk (g' := gb368) (o := .cells #[.int .i32 0, .int .i32 0] 50 (0, 0)) (by (with_reducible repeat (first | refine blk_drewN ?_ _ | refine blk_drew ?_ | refine blk_alloc ?_ _)); exact BK368.out) NB368_0.out (by simp)); have n1_ := Aside0.mk (KeepBut.trans (by repeat (first | (with_reducible first | exact HK.out | apply KeepBut.set_ | apply keep_drewN | apply keep_drew | apply keep_alloc | refine keep_far ?_ GW368.out _) | exact HK.out)) hk (.inl rfl)); have n2_ := Aside0.mk (hb); have n3_ := Aside0.mk (hi); clear BK368; clear HK; clear HB; clear HI0; have BK368 := n0_; have HK := n1_; have HB := n2_; have HI0 := n3_; clear n0_ n1_ n2_ n3_; (try clear hb); (try clear hb2); (try clear hk); (try clear hi); have hnb15 := NB368_0.out; have hnc15 := NB0_368.out; have hcz16_0 : w14.cell? ⟨gb368, 0, none⟩ = some (.int .i32 0) := (blk_cell BK368.out 0).trans rfl; have hcz16_1 : w14.cell? ⟨gb368, 1, none⟩ = some (.int .i32 0) := (blk_cell BK368.out 1).trans rfl; have hfz16_0 := blk_frozen BK368.out 0; have hfz16_1 := blk_frozen BK368.out 1))
            refine bodyPost_ret (results_ct rfl _ _ gb368 50 #[.int .i32 t369, .int .i32 t376] (0, 0) _ rfl (by (with_reducible repeat (first | refine blk_drewN ?_ _ | refine blk_drew ?_ | refine blk_alloc ?_ _)); refine blk_put (cs := #[.int .i32 t369, .int .i32 0]) ?_ 1 _ rfl; (with_reducible repeat (first | refine blk_drewN ?_ _ | refine blk_drew ?_ | refine blk_alloc ?_ _)); refine blk_put (cs := #[.int .i32 0, .int .i32 0]) ?_ 0 _ rfl; (with_reducible repeat (first | refine blk_drewN ?_ _ | refine blk_drew ?_ | refine blk_alloc ?_ _)); exact BK368.out) Try.underlying50 rfl (by kernel_rfl)) rfl ?_
            exact ⟨by first | rfl | (simp [errW_none, errW_some] <;> rfl) | (simp [*, errW_none, errW_some] <;> rfl), by repeat (first | (with_reducible first | exact HI0.out | apply IsS83.alloc | apply IsS83.drewN | apply IsS83.drew | apply IsS83.set_0 | apply IsS83.set_1 | refine IsS83.far ?_ NB0_368.out _) | exact HI0.out), by repeat (first | (with_reducible first | exact HB.out | apply below_alloc | apply pw_below_drewN | apply below_drew1 | refine below_set ?_ (IsS83.ge HI0.out) | refine below_set ?_ GE368.out) | exact HB.out), by repeat (first | (with_reducible first | exact HK.out | apply KeepBut.set_ | apply keep_drewN | apply keep_drew | apply keep_alloc | refine keep_far ?_ GW368.out _) | exact HK.out)⟩
          · replace c13 := Bool.eq_false_iff.mpr c13
            subst c13
            have H1 : (some (0, 0, false, t378, t379)) = some (r1, r2, r3, r4, r5) := by rw [if_neg (show ¬ (false = true) by decide)] at H; exact H
            clear H
            have H := H1
            clear H1
            simp only [Option.some.injEq, Prod.mk.injEq] at H
            obtain ⟨rfl, rfl, rfl, rfl, rfl⟩ := H
            go_wp2_with (first | ((with_reducible refine gate_callee (f := 65) rfl ?_); refine goesL_ (some 29) rfl rfl Try.func65 (by kernel_rfl) rfl #[.pointer (some ⟨g, 0, none⟩), .int .i32 (wrap32 (t369 + 1))] rfl (by (try simp only [List.map_toArray, List.map_cons, List.map_nil]); first | done | rfl | (simp only [List.length_drop, List.length_take]; rfl)) ?_; (with_reducible refine (span_reader_point.calls kj4 g x1000_4 x1001_4 (wrap32 (t369 + 1)) t376 false t378 t379 w0 _ ?side1 ?side2 A12.out).mono ?_); (case side1 => repeat (first | (with_reducible first | exact HI0.out | apply IsS83.alloc | apply IsS83.drewN | apply IsS83.drew | apply IsS83.set_0 | apply IsS83.set_1 | refine IsS83.far ?_ NB0_368.out _) | exact HI0.out)); (case side2 => repeat (first | (with_reducible first | exact HB.out | apply below_alloc | apply pw_below_drewN | apply below_drew1 | refine below_set ?_ (IsS83.ge HI0.out) | refine below_set ?_ GE368.out) | exact HB.out)); rintro e w17 ⟨rfl, hi, hb, hk⟩; refine ⟨_, rfl, ?_⟩; have n0_ := Aside0.mk (KeepBut.blk hk (g' := gb368) (o := .cells #[.int .i32 0, .int .i32 0] 50 (0, 0)) (by (with_reducible repeat (first | refine blk_drewN ?_ _ | refine blk_drew ?_ | refine blk_alloc ?_ _)); exact BK368.out) NB368_0.out (by simp)); have n1_ := Aside0.mk (KeepBut.trans (by repeat (first | (with_reducible first | exact HK.out | apply KeepBut.set_ | apply keep_drewN | apply keep_drew | apply keep_alloc | refine keep_far ?_ GW368.out _) | exact HK.out)) hk (.inl rfl)); have n2_ := Aside0.mk (hb); have n3_ := Aside0.mk (hi); clear BK368; clear HK; clear HB; clear HI0; have BK368 := n0_; have HK := n1_; have HB := n2_; have HI0 := n3_; clear n0_ n1_ n2_ n3_; (try clear hb); (try clear hb2); (try clear hk); (try clear hi); have hnb18 := NB368_0.out; have hnc18 := NB0_368.out; have hcz19_0 : w17.cell? ⟨gb368, 0, none⟩ = some (.int .i32 0) := (blk_cell BK368.out 0).trans rfl; have hcz19_1 : w17.cell? ⟨gb368, 1, none⟩ = some (.int .i32 0) := (blk_cell BK368.out 1).trans rfl; have hfz19_0 := blk_frozen BK368.out 0; have hfz19_1 := blk_frozen BK368.out 1))
            refine bodyPost_ret (results_ct rfl _ _ gb368 50 #[.int .i32 0, .int .i32 0] (0, 0) _ rfl (by (with_reducible repeat (first | refine blk_drewN ?_ _ | refine blk_drew ?_ | refine blk_alloc ?_ _)); refine blk_put (cs := #[.int .i32 0, .int .i32 0]) ?_ 1 _ rfl; (with_reducible repeat (first | refine blk_drewN ?_ _ | refine blk_drew ?_ | refine blk_alloc ?_ _)); refine blk_put (cs := #[.int .i32 0, .int .i32 0]) ?_ 0 _ rfl; (with_reducible repeat (first | refine blk_drewN ?_ _ | refine blk_drew ?_ | refine blk_alloc ?_ _)); exact BK368.out) Try.underlying50 rfl (by kernel_rfl)) rfl ?_
            exact ⟨by first | rfl | (simp [errW_none, errW_some] <;> rfl) | (simp [*, errW_none, errW_some] <;> rfl), by repeat (first | (with_reducible first | exact HI0.out | apply IsS83.alloc | apply IsS83.drewN | apply IsS83.drew | apply IsS83.set_0 | apply IsS83.set_1 | refine IsS83.far ?_ NB0_368.out _) | exact HI0.out), by repeat (first | (with_reducible first | exact HB.out | apply below_alloc | apply pw_below_drewN | apply below_drew1 | refine below_set ?_ (IsS83.ge HI0.out) | refine below_set ?_ GE368.out) | exact HB.out), by repeat (first | (with_reducible first | exact HK.out | apply KeepBut.set_ | apply keep_drewN | apply keep_drew | apply keep_alloc | refine keep_far ?_ GW368.out _) | exact HK.out)⟩
        · replace c11 := Bool.eq_false_iff.mpr c11
          subst c11
          have H1 : (some (t369, t369, true, x1000_4, x1001_4)) = some (r1, r2, r3, r4, r5) := by rw [if_neg (show ¬ (false = true) by decide)] at H; exact H
          clear H
          have H := H1
          clear H1
          simp only [Option.some.injEq, Prod.mk.injEq] at H
          obtain ⟨rfl, rfl, rfl, rfl, rfl⟩ := H
          have hnb20 := NB368_0.out
          have hnc20 := NB0_368.out
          have hcz21_0 : wc.cell? ⟨gb368, 0, none⟩ = some (.int .i32 0) := (blk_cell BK368.out 0).trans rfl
          have hcz21_1 : wc.cell? ⟨gb368, 1, none⟩ = some (.int .i32 0) := (blk_cell BK368.out 1).trans rfl
          have hfz21_0 := blk_frozen BK368.out 0
          have hfz21_1 := blk_frozen BK368.out 1
          go_wp2
          refine bodyPost_ret (results_ct rfl _ _ gb368 50 #[.int .i32 t369, .int .i32 t369] (0, 0) _ rfl (by (with_reducible repeat (first | refine blk_drewN ?_ _ | refine blk_drew ?_ | refine blk_alloc ?_ _)); refine blk_put (cs := #[.int .i32 t369, .int .i32 0]) ?_ 1 _ rfl; (with_reducible repeat (first | refine blk_drewN ?_ _ | refine blk_drew ?_ | refine blk_alloc ?_ _)); refine blk_put (cs := #[.int .i32 0, .int .i32 0]) ?_ 0 _ rfl; (with_reducible repeat (first | refine blk_drewN ?_ _ | refine blk_drew ?_ | refine blk_alloc ?_ _)); exact BK368.out) Try.underlying50 rfl (by kernel_rfl)) rfl ?_
          exact ⟨by first | rfl | (simp [errW_none, errW_some] <;> rfl) | (simp [*, errW_none, errW_some] <;> rfl), by repeat (first | (with_reducible first | exact HI0.out | apply IsS83.alloc | apply IsS83.drewN | apply IsS83.drew | apply IsS83.set_0 | apply IsS83.set_1 | refine IsS83.far ?_ NB0_368.out _) | exact HI0.out), by repeat (first | (with_reducible first | exact HB.out | apply below_alloc | apply pw_below_drewN | apply below_drew1 | refine below_set ?_ (IsS83.ge HI0.out) | refine below_set ?_ GE368.out) | exact HB.out), by repeat (first | (with_reducible first | exact HK.out | apply KeepBut.set_ | apply keep_drewN | apply keep_drew | apply keep_alloc | refine keep_far ?_ GW368.out _) | exact HK.out)⟩
  · replace c4 := Bool.eq_false_iff.mpr c4
    subst c4
    have H1 : (some (0, 0, false, t371, t372)) = some (r1, r2, r3, r4, r5) := by rw [if_neg (show ¬ (false = true) by decide)] at H; exact H
    clear H
    have H := H1
    clear H1
    simp only [Option.some.injEq, Prod.mk.injEq] at H
    obtain ⟨rfl, rfl, rfl, rfl, rfl⟩ := H
    go_enter Try.func55, Try.ntmps55
    go_wp2_with (first | ((with_reducible refine gate_dst (N := 4) rfl ?_); refine box_event ?hg (N := 4) ?hd (cs := #[.int .i32 0, .int .i32 0]) (t := 50) ?hr ?_; (case hd => rfl); (case hg => rfl); (case hr => first | (go_simp; done) | (go_simp; rfl)); intro gb368 hg w22 hbox hb; have n0_ := Aside0.mk (IsS83.below (by repeat (first | (with_reducible first | exact HI0.out | apply IsS83.alloc | apply IsS83.drewN | apply IsS83.drew | apply IsS83.set_0 | apply IsS83.set_1) | exact HI0.out)) hb); have n1_ := Aside0.mk (KeepBut.trans (by repeat (first | (with_reducible first | exact HK.out | apply KeepBut.set_ | apply keep_drewN | apply keep_drew | apply keep_alloc) | exact HK.out)) (KeepBut.of_below hb g none) (.inl rfl)); have n2_ := Aside0.mk (below_step (by repeat (first | (with_reducible first | exact HB.out | apply below_alloc | apply pw_below_drewN | apply below_drew1 | refine below_set ?_ (IsS83.ge HI0.out)) | exact HB.out)) hb); have n3_ := Aside0.mk (hbox); have n4_ := Aside0.mk ((by rw [hg]; exact (keep_size (w := w) (g := g) (row := none) (by repeat (first | (with_reducible first | exact HK.out | apply KeepBut.set_ | apply keep_drewN | apply keep_drew | apply keep_alloc) | exact HK.out))) : w.heap.size ≤ gb368)); have n5_ := Aside0.mk ((Nat.le_trans HW0.out (by rw [hg]; exact (keep_size (w := w) (g := g) (row := none) (by repeat (first | (with_reducible first | exact HK.out | apply KeepBut.set_ | apply keep_drewN | apply keep_drew | apply keep_alloc) | exact HK.out))) : w.heap.size ≤ gb368) : w0.heap.size ≤ gb368)); have n6_ := Aside0.mk ((by rw [hg]; exact Nat.ne_of_lt (IsS83.lt (show IsS83 w0 _ g s0_0 s0_1 from by repeat (first | (with_reducible first | exact HI0.out | apply IsS83.alloc | apply IsS83.drewN | apply IsS83.drew | apply IsS83.set_0 | apply IsS83.set_1) | exact HI0.out))) : g ≠ gb368)); have n7_ := Aside0.mk ((by rw [hg]; exact Nat.ne_of_gt (IsS83.lt (show IsS83 w0 _ g s0_0 s0_1 from by repeat (first | (with_reducible first | exact HI0.out | apply IsS83.alloc | apply IsS83.drewN | apply IsS83.drew | apply IsS83.set_0 | apply IsS83.set_1) | exact HI0.out))) : gb368 ≠ g)); clear HI0; clear HK; clear HB; have HI0 := n0_; have HK := n1_; have HB := n2_; have BK368 := n3_; have GW368 := n4_; have GE368 := n5_; have NB0_368 := n6_; have NB368_0 := n7_; clear n0_ n1_ n2_ n3_ n4_ n5_ n6_ n7_; clear hb hbox hg) | ((with_reducible refine gate_callee (f := 65) rfl ?_); refine goesL_ (some 12) rfl rfl Try.func65 (by kernel_rfl) rfl #[.pointer (some ⟨g, 0, none⟩), .int .i32 a1] rfl (by (try simp only [List.map_toArray, List.map_cons, List.map_nil]); first | done | rfl | (simp only [List.length_drop, List.length_take]; rfl)) ?_; (with_reducible refine (span_reader_point.calls k g s0_0 s0_1 a1 t369 false t371 t372 w0 _ ?side1 ?side2 A3.out).mono ?_); (case side1 => repeat (first | (with_reducible first | exact HI0.out | apply IsS83.alloc | apply IsS83.drewN | apply IsS83.drew | apply IsS83.set_0 | apply IsS83.set_1 | refine IsS83.far ?_ NB0_368.out _) | exact HI0.out)); (case side2 => repeat (first | (with_reducible first | exact HB.out | apply below_alloc | apply pw_below_drewN | apply below_drew1 | refine below_set ?_ (IsS83.ge HI0.out) | refine below_set ?_ GE368.out) | exact HB.out)); rintro e w23 ⟨rfl, hi, hb, hk⟩; refine ⟨_, rfl, ?_⟩; have n0_ := Aside0.mk (KeepBut.blk hk (g' := gb368) (o := .cells #[.int .i32 0, .int .i32 0] 50 (0, 0)) (by (with_reducible repeat (first | refine blk_drewN ?_ _ | refine blk_drew ?_ | refine blk_alloc ?_ _)); exact BK368.out) NB368_0.out (by simp)); have n1_ := Aside0.mk (KeepBut.trans (by repeat (first | (with_reducible first | exact HK.out | apply KeepBut.set_ | apply keep_drewN | apply keep_drew | apply keep_alloc | refine keep_far ?_ GW368.out _) | exact HK.out)) hk (.inl rfl)); have n2_ := Aside0.mk (hb); have n3_ := Aside0.mk (hi); clear BK368; clear HK; clear HB; clear HI0; have BK368 := n0_; have HK := n1_; have HB := n2_; have HI0 := n3_; clear n0_ n1_ n2_ n3_; (try clear hb); (try clear hb2); (try clear hk); (try clear hi); have hnb24 := NB368_0.out; have hnc24 := NB0_368.out; have hcz25_0 : w23.cell? ⟨gb368, 0, none⟩ = some (.int .i32 0) := (blk_cell BK368.out 0).trans rfl; have hcz25_1 : w23.cell? ⟨gb368, 1, none⟩ = some (.int .i32 0) := (blk_cell BK368.out 1).trans rfl; have hfz25_0 := blk_frozen BK368.out 0; have hfz25_1 := blk_frozen BK368.out 1))
    refine bodyPost_ret (results_ct rfl _ _ gb368 50 #[.int .i32 0, .int .i32 0] (0, 0) _ rfl (by (with_reducible repeat (first | refine blk_drewN ?_ _ | refine blk_drew ?_ | refine blk_alloc ?_ _)); refine blk_put (cs := #[.int .i32 0, .int .i32 0]) ?_ 1 _ rfl; (with_reducible repeat (first | refine blk_drewN ?_ _ | refine blk_drew ?_ | refine blk_alloc ?_ _)); refine blk_put (cs := #[.int .i32 0, .int .i32 0]) ?_ 0 _ rfl; (with_reducible repeat (first | refine blk_drewN ?_ _ | refine blk_drew ?_ | refine blk_alloc ?_ _)); exact BK368.out) Try.underlying50 rfl (by kernel_rfl)) rfl ?_
    exact ⟨by first | rfl | (simp [errW_none, errW_some] <;> rfl) | (simp [*, errW_none, errW_some] <;> rfl), by repeat (first | (with_reducible first | exact HI0.out | apply IsS83.alloc | apply IsS83.drewN | apply IsS83.drew | apply IsS83.set_0 | apply IsS83.set_1 | refine IsS83.far ?_ NB0_368.out _) | exact HI0.out), by repeat (first | (with_reducible first | exact HB.out | apply below_alloc | apply pw_below_drewN | apply below_drew1 | refine below_set ?_ (IsS83.ge HI0.out) | refine below_set ?_ GE368.out) | exact HB.out), by repeat (first | (with_reducible first | exact HK.out | apply KeepBut.set_ | apply keep_drewN | apply keep_drew | apply keep_alloc | refine keep_far ?_ GW368.out _) | exact HK.out)⟩

-- BY HAND: function 38 (span_Parse)

/-! ### posternref07_grows: function 66 -/
mutual
def posternref07_grows.l0 : Nat → Int → Int → Int → Int → Option (Bool)
  | 0, _, _, _, _ => none
  | k + 1, x0, x1, x2, x7 => if x7 ≤ 6 then (if x7 < x1 then (posternref07_grows.l0 k x0 x1 x2 (wrap64 (x7 + 1))) else (if 0 ≤ (IntKind.u64.wrap (wrap64 (4 * (wrap64 (x7 - x1))))) then (if x7 > 4 then (if 0 ≤ (IntKind.u64.wrap (wrap64 (4 * (wrap64 (x7 - 1))))) then (posternref07_grows.j1 k x0 x1 x2 x7 (shl .i32 x0 (IntKind.u64.wrap (wrap64 (4 * (wrap64 (x7 - x1)))))) (wrap32 ((wrap32 ((shl .i32 x0 (IntKind.u64.wrap (wrap64 (4 * (wrap64 (x7 - x1)))))) + (shl .i32 1 (IntKind.u64.wrap (wrap64 (4 * (wrap64 (x7 - x1)))))))) - 1)) (decide ((wrap32 ((wrap32 ((shl .i32 x0 (IntKind.u64.wrap (wrap64 (4 * (wrap64 (x7 - x1)))))) + (shl .i32 1 (IntKind.u64.wrap (wrap64 (4 * (wrap64 (x7 - x1)))))))) - 1)) < (shl .i32 1 (IntKind.u64.wrap (wrap64 (4 * (wrap64 (x7 - 1))))))))) else (none)) else (posternref07_grows.j1 k x0 x1 x2 x7 (shl .i32 x0 (IntKind.u64.wrap (wrap64 (4 * (wrap64 (x7 - x1)))))) (wrap32 ((wrap32 ((shl .i32 x0 (IntKind.u64.wrap (wrap64 (4 * (wrap64 (x7 - x1)))))) + (shl .i32 1 (IntKind.u64.wrap (wrap64 (4 * (wrap64 (x7 - x1)))))))) - 1)) false)) else (none))) else (some false)
def posternref07_grows.j1 : Nat → Int → Int → Int → Int → Int → Int → Bool → Option (Bool)
  | 0, _, _, _, _, _, _, _ => none
  | k + 1, x0, x1, x2, x7, x8, x9, x43 => if x43 = true then (posternref07_grows.l0 k x0 x1 x2 (wrap64 (x7 + 1))) else (if x7 > 4 then (if 0 ≤ (IntKind.u64.wrap (wrap64 (4 * (wrap64 (x7 - 1))))) then (posternref07_grows.j2 k x0 x1 x2 x7 x8 x9 (decide (x8 < (shl .i32 1 (IntKind.u64.wrap (wrap64 (4 * (wrap64 (x7 - 1))))))))) else (none)) else (posternref07_grows.j2 k x0 x1 x2 x7 x8 x9 false))
def posternref07_grows.j2 : Nat → Int → Int → Int → Int → Int → Int → Bool → Option (Bool)
  | 0, _, _, _, _, _, _, _ => none
  | k + 1, x0, x1, x2, x7, x8, x9, x54 => if x54 = true then (if 0 ≤ (IntKind.u64.wrap (wrap64 (4 * (wrap64 (x7 - 1))))) then (posternref07_grows.j3 k x0 x1 x2 x7 (shl .i32 1 (IntKind.u64.wrap (wrap64 (4 * (wrap64 (x7 - 1)))))) x9) else (none)) else (posternref07_grows.j3 k x0 x1 x2 x7 x8 x9)
def posternref07_grows.j3 : Nat → Int → Int → Int → Int → Int → Int → Option (Bool)
  | 0, _, _, _, _, _, _ => none
  | k + 1, x0, x1, x2, x7, x8, x9 => if x9 > 1114111 then (if 1114111 ≥ x2 then (if 1114111 ≥ x8 then (some true) else (posternref07_grows.l0 k x0 x1 x2 (wrap64 (x7 + 1)))) else (posternref07_grows.l0 k x0 x1 x2 (wrap64 (x7 + 1)))) else (if x9 ≥ x2 then (if x9 ≥ x8 then (some true) else (posternref07_grows.l0 k x0 x1 x2 (wrap64 (x7 + 1)))) else (posternref07_grows.l0 k x0 x1 x2 (wrap64 (x7 + 1))))
end
def posternref07_grows.f (k : Nat) (a0 : Int) (a1 : Int) (a2 : Int) : Option (Bool) := posternref07_grows.l0 k a0 a1 a2 4
theorem posternref07_grows.mono_l : ∀ k, (∀ y0 y1 y2 y3, LeO (posternref07_grows.l0 k y0 y1 y2 y3) (posternref07_grows.l0 (k + 1) y0 y1 y2 y3)) ∧ (∀ y0 y1 y2 y3 y4 y5 y6, LeO (posternref07_grows.j1 k y0 y1 y2 y3 y4 y5 y6) (posternref07_grows.j1 (k + 1) y0 y1 y2 y3 y4 y5 y6)) ∧ (∀ y0 y1 y2 y3 y4 y5 y6, LeO (posternref07_grows.j2 k y0 y1 y2 y3 y4 y5 y6) (posternref07_grows.j2 (k + 1) y0 y1 y2 y3 y4 y5 y6)) ∧ (∀ y0 y1 y2 y3 y4 y5, LeO (posternref07_grows.j3 k y0 y1 y2 y3 y4 y5) (posternref07_grows.j3 (k + 1) y0 y1 y2 y3 y4 y5))
  | 0 => ⟨fun _ _ _ _ r h => by simp [posternref07_grows.l0] at h, fun _ _ _ _ _ _ _ r h => by simp [posternref07_grows.j1] at h, fun _ _ _ _ _ _ _ r h => by simp [posternref07_grows.j2] at h, fun _ _ _ _ _ _ r h => by simp [posternref07_grows.j3] at h⟩
  | k + 1 => by
    obtain ⟨ih0, ih1, ih2, ih3⟩ := posternref07_grows.mono_l k
    refine ⟨?_, ?_, ?_, ?_⟩
    · intro y0 y1 y2 y3
      unfold posternref07_grows.l0
      repeat' first
      | (with_reducible exact ih0 _ _ _ _)
      | (with_reducible exact ih1 _ _ _ _ _ _ _)
      | (with_reducible exact ih2 _ _ _ _ _ _ _)
      | (with_reducible exact ih3 _ _ _ _ _ _)
      | (with_reducible exact LeO.refl _)
      | (with_reducible exact LeO.none _)
      | (with_reducible refine LeO.ite ?_ ?_)
      | (with_reducible refine LeO.bind ?_ (fun _ => ?_))
      | exact ih0 _ _ _ _
      | exact ih1 _ _ _ _ _ _ _
      | exact ih2 _ _ _ _ _ _ _
      | exact ih3 _ _ _ _ _ _
      | exact LeO.none _
      | refine LeO.ite ?_ ?_
      | refine LeO.bind ?_ (fun _ => ?_)
    · intro y0 y1 y2 y3 y4 y5 y6
      unfold posternref07_grows.j1
      repeat' first
      | (with_reducible exact ih0 _ _ _ _)
      | (with_reducible exact ih1 _ _ _ _ _ _ _)
      | (with_reducible exact ih2 _ _ _ _ _ _ _)
      | (with_reducible exact ih3 _ _ _ _ _ _)
      | (with_reducible exact LeO.refl _)
      | (with_reducible exact LeO.none _)
      | (with_reducible refine LeO.ite ?_ ?_)
      | (with_reducible refine LeO.bind ?_ (fun _ => ?_))
      | exact ih0 _ _ _ _
      | exact ih1 _ _ _ _ _ _ _
      | exact ih2 _ _ _ _ _ _ _
      | exact ih3 _ _ _ _ _ _
      | exact LeO.none _
      | refine LeO.ite ?_ ?_
      | refine LeO.bind ?_ (fun _ => ?_)
    · intro y0 y1 y2 y3 y4 y5 y6
      unfold posternref07_grows.j2
      repeat' first
      | (with_reducible exact ih0 _ _ _ _)
      | (with_reducible exact ih1 _ _ _ _ _ _ _)
      | (with_reducible exact ih2 _ _ _ _ _ _ _)
      | (with_reducible exact ih3 _ _ _ _ _ _)
      | (with_reducible exact LeO.refl _)
      | (with_reducible exact LeO.none _)
      | (with_reducible refine LeO.ite ?_ ?_)
      | (with_reducible refine LeO.bind ?_ (fun _ => ?_))
      | exact ih0 _ _ _ _
      | exact ih1 _ _ _ _ _ _ _
      | exact ih2 _ _ _ _ _ _ _
      | exact ih3 _ _ _ _ _ _
      | exact LeO.none _
      | refine LeO.ite ?_ ?_
      | refine LeO.bind ?_ (fun _ => ?_)
    · intro y0 y1 y2 y3 y4 y5
      unfold posternref07_grows.j3
      repeat' first
      | (with_reducible exact ih0 _ _ _ _)
      | (with_reducible exact ih1 _ _ _ _ _ _ _)
      | (with_reducible exact ih2 _ _ _ _ _ _ _)
      | (with_reducible exact ih3 _ _ _ _ _ _)
      | (with_reducible exact LeO.refl _)
      | (with_reducible exact LeO.none _)
      | (with_reducible refine LeO.ite ?_ ?_)
      | (with_reducible refine LeO.bind ?_ (fun _ => ?_))
      | exact ih0 _ _ _ _
      | exact ih1 _ _ _ _ _ _ _
      | exact ih2 _ _ _ _ _ _ _
      | exact ih3 _ _ _ _ _ _
      | exact LeO.none _
      | refine LeO.ite ?_ ?_
      | refine LeO.bind ?_ (fun _ => ?_)
theorem posternref07_grows.mono : ∀ a0 a1 a2 k, LeO (posternref07_grows.f k a0 a1 a2) (posternref07_grows.f (k + 1) a0 a1 a2) := by
  intro a0 a1 a2 k
  obtain ⟨ih0, ih1, ih2, ih3⟩ := posternref07_grows.mono_l k
  unfold posternref07_grows.f
  repeat' first
      | (with_reducible exact ih0 _ _ _ _)
      | (with_reducible exact ih1 _ _ _ _ _ _ _)
      | (with_reducible exact ih2 _ _ _ _ _ _ _)
      | (with_reducible exact ih3 _ _ _ _ _ _)
      | (with_reducible exact LeO.refl _)
      | (with_reducible exact LeO.none _)
      | (with_reducible refine LeO.ite ?_ ?_)
      | (with_reducible refine LeO.bind ?_ (fun _ => ?_))
      | exact ih0 _ _ _ _
      | exact ih1 _ _ _ _ _ _ _
      | exact ih2 _ _ _ _ _ _ _
      | exact ih3 _ _ _ _ _ _
      | exact LeO.none _
      | refine LeO.ite ?_ ?_
      | refine LeO.bind ?_ (fun _ => ?_)
set_option maxHeartbeats 8000000 in
set_option maxRecDepth 100000 in
theorem posternref07_grows.calls (k : Nat) (a0 : Int) (a1 : Int) (a2 : Int) (r : Bool) (w : World) (h : posternref07_grows.f k a0 a1 a2 = some r) :
    Calls Try.prog 66 #[.int .i32 a0, .int .i64 a1, .int .i32 a2] w fun e w' => e = .returned (.bool r) ∧ Drawn0 w w' := by
  have H : (posternref07_grows.l0 k a0 a1 a2 4) = some r := h
  clear h
  have H' := Aside0.mk H
  clear H
  go_enter Try.func66, Try.ntmps66
  go_wp2
  go_loopg [7] k (fun kq v7 w' => ∃ (x7_1 : Int), v7 = .int .i64 x7_1 ∧ Aside0 (posternref07_grows.l0 kq a0 a1 a2 x7_1 = some r) ∧ Aside0 (kq ≤ k) ∧ Drawn0 w w')
  case atStart => exact ⟨(4), (by first | rfl | (simp; done) | (simp [*]; done)), H', ⟨Nat.le_refl _⟩, by repeat (first | exact Drawn0.refl _ | apply Drawn0.step)⟩
  case round =>
    clear H'
    try clear p2
    obtain ⟨x7_1, rfl, HA, HK1, ⟨m1, rfl⟩⟩ := hrel
    cases gk with
    | zero => exact absurd HA.out (by simp [posternref07_grows.l0])
    | succ k1 =>
      have H := HA.out
      clear HA
      simp only [posternref07_grows.l0] at H
      by_cases c4 : x7_1 ≤ 6
      · rw [if_pos c4] at H
        have c4b0 : decide (x7_1 ≤ 6) = true := decide_eq_true c4
        clear c4
        by_cases c5 : x7_1 < a1
        · rw [if_pos c5] at H
          have c5b0 : decide (x7_1 < a1) = true := decide_eq_true c5
          clear c5
          have H' := Aside0.mk H
          clear H
          go_wp2
          go_roundg k1
          case measure => have := HK1.out; omega
          case rel => exact ⟨(wrap64 (x7_1 + 1)), (by first | rfl | (simp; done) | (simp [*]; done)), H', ⟨by have := HK1.out; omega⟩, by repeat (first | exact Drawn0.refl _ | apply Drawn0.step)⟩
        · rw [if_neg c5] at H
          have c5b0 : decide (x7_1 < a1) = false := decide_eq_false c5
          clear c5
          obtain ⟨ji6, hji6⟩ : ∃ j_ : Int, (IntKind.u64.wrap (wrap64 (4 * (wrap64 (x7_1 - a1))))) = j_ := ⟨_, rfl⟩
          replace H : (if 0 ≤ (ji6) then (if x7_1 > 4 then (if 0 ≤ (IntKind.u64.wrap (wrap64 (4 * (wrap64 (x7_1 - 1))))) then (posternref07_grows.j1 k1 a0 a1 a2 x7_1 (shl .i32 a0 (ji6)) (wrap32 ((wrap32 ((shl .i32 a0 (ji6)) + (shl .i32 1 (ji6)))) - 1)) (decide ((wrap32 ((wrap32 ((shl .i32 a0 (ji6)) + (shl .i32 1 (ji6)))) - 1)) < (shl .i32 1 (IntKind.u64.wrap (wrap64 (4 * (wrap64 (x7_1 - 1))))))))) else (none)) else (posternref07_grows.j1 k1 a0 a1 a2 x7_1 (shl .i32 a0 (ji6)) (wrap32 ((wrap32 ((shl .i32 a0 (ji6)) + (shl .i32 1 (ji6)))) - 1)) false)) else (none)) = some r := by first | (rw [hji6] at H; exact H) | (simp only [hji6] at H ⊢; exact H)
          by_cases c7 : 0 ≤ (ji6)
          · rw [if_pos c7] at H
            have c7b0 := eq_true c7
            have c7b1 : decide (0 ≤ (ji6)) = true := decide_eq_true c7
            clear c7
            obtain ⟨ji8, hji8⟩ : ∃ j_ : Int, (shl .i32 a0 (ji6)) = j_ := ⟨_, rfl⟩
            replace H : (if x7_1 > 4 then (if 0 ≤ (IntKind.u64.wrap (wrap64 (4 * (wrap64 (x7_1 - 1))))) then (posternref07_grows.j1 k1 a0 a1 a2 x7_1 ji8 (wrap32 ((wrap32 ((ji8) + (shl .i32 1 (ji6)))) - 1)) (decide ((wrap32 ((wrap32 ((ji8) + (shl .i32 1 (ji6)))) - 1)) < (shl .i32 1 (IntKind.u64.wrap (wrap64 (4 * (wrap64 (x7_1 - 1))))))))) else (none)) else (posternref07_grows.j1 k1 a0 a1 a2 x7_1 ji8 (wrap32 ((wrap32 ((ji8) + (shl .i32 1 (ji6)))) - 1)) false)) = some r := by first | (rw [hji8] at H; exact H) | (simp only [hji8] at H ⊢; exact H)
            have hji8_ : (IntKind.i32.wrap (a0 * 2 ^ min (ji6).toNat 32)) = ji8 := hji8
            have hji8z : (ji6) ≤ 32 → (IntKind.i32.wrap (a0 * 2 ^ (ji6).toNat)) = ji8 := shl_small hji8
            have hji8y : (wrap32 (a0 * 2 ^ min (ji6).toNat 32)) = ji8 := (i32_w _).symm.trans hji8_
            have hji8x : (ji6) ≤ 32 → (wrap32 (a0 * 2 ^ (ji6).toNat)) = ji8 := fun h_ => (i32_w _).symm.trans (hji8z h_)
            have c9b0 := eq_true (of_decide_eq_true (by first | (with_reducible assumption) | assumption) : 0 ≤ (ji6))
            obtain ⟨ji10, hji10⟩ : ∃ j_ : Int, (shl .i32 1 (ji6)) = j_ := ⟨_, rfl⟩
            replace H : (if x7_1 > 4 then (if 0 ≤ (IntKind.u64.wrap (wrap64 (4 * (wrap64 (x7_1 - 1))))) then (posternref07_grows.j1 k1 a0 a1 a2 x7_1 ji8 (wrap32 ((wrap32 ((ji8) + (ji10))) - 1)) (decide ((wrap32 ((wrap32 ((ji8) + (ji10))) - 1)) < (shl .i32 1 (IntKind.u64.wrap (wrap64 (4 * (wrap64 (x7_1 - 1))))))))) else (none)) else (posternref07_grows.j1 k1 a0 a1 a2 x7_1 ji8 (wrap32 ((wrap32 ((ji8) + (ji10))) - 1)) false)) = some r := by first | (rw [hji10] at H; exact H) | (simp only [hji10] at H ⊢; exact H)
            have hji10_ : (IntKind.i32.wrap (1 * 2 ^ min (ji6).toNat 32)) = ji10 := hji10
            have hji10z : (ji6) ≤ 32 → (IntKind.i32.wrap (1 * 2 ^ (ji6).toNat)) = ji10 := shl_small hji10
            have hji10u : (IntKind.i32.wrap (2 ^ min (ji6).toNat 32)) = ji10 := by have h_ := hji10_; rw [Int.one_mul] at h_; exact h_
            have hji10v : (ji6) ≤ 32 → (IntKind.i32.wrap (2 ^ (ji6).toNat)) = ji10 := fun hle_ => by have h_ := hji10z hle_; rw [Int.one_mul] at h_; exact h_
            have hji10y : (wrap32 (1 * 2 ^ min (ji6).toNat 32)) = ji10 := (i32_w _).symm.trans hji10_
            have hji10x : (ji6) ≤ 32 → (wrap32 (1 * 2 ^ (ji6).toNat)) = ji10 := fun h_ => (i32_w _).symm.trans (hji10z h_)
            have HC11 := Aside0.mk H
            clear H
            go_upto_region 7 with (fail)
            go_cut [43] (fun v43 wc => ∃ (kq : Nat) (x43_10 : Bool), v43 = .bool x43_10 ∧ Aside0 (posternref07_grows.j1 kq a0 a1 a2 x7_1 ji8 (wrap32 ((wrap32 ((ji8) + (ji10))) - 1)) x43_10 = some r) ∧ Aside0 (kq ≤ k1) ∧ Drawn0 w wc)
            case first =>
              have H := HC11.out
              clear HC11
              by_cases c12 : x7_1 > 4
              · rw [if_pos c12] at H
                have c12b0 : decide (4 < x7_1) = true := decide_eq_true c12
                clear c12
                (first | rw [c12b0] | (simp only [i64_w, i32_w]; rw [c12b0]) | skip)
                obtain ⟨ji13, hji13⟩ : ∃ j_ : Int, (IntKind.u64.wrap (wrap64 (4 * (wrap64 (x7_1 - 1))))) = j_ := ⟨_, rfl⟩
                replace H : (if 0 ≤ (ji13) then (posternref07_grows.j1 k1 a0 a1 a2 x7_1 ji8 (wrap32 ((wrap32 ((ji8) + (ji10))) - 1)) (decide ((wrap32 ((wrap32 ((ji8) + (ji10))) - 1)) < (shl .i32 1 (ji13))))) else (none)) = some r := by first | (rw [hji13] at H; exact H) | (simp only [hji13] at H ⊢; exact H)
                by_cases c14 : 0 ≤ (ji13)
                · rw [if_pos c14] at H
                  have c14b0 := eq_true c14
                  have c14b1 : decide (0 ≤ (ji13)) = true := decide_eq_true c14
                  clear c14
                  obtain ⟨ji15, hji15⟩ : ∃ j_ : Int, (shl .i32 1 (ji13)) = j_ := ⟨_, rfl⟩
                  replace H : (posternref07_grows.j1 k1 a0 a1 a2 x7_1 ji8 (wrap32 ((wrap32 ((ji8) + (ji10))) - 1)) (decide ((wrap32 ((wrap32 ((ji8) + (ji10))) - 1)) < (ji15)))) = some r := by first | (rw [hji15] at H; exact H) | (simp only [hji15] at H ⊢; exact H)
                  have hji15_ : (IntKind.i32.wrap (1 * 2 ^ min (ji13).toNat 32)) = ji15 := hji15
                  have hji15z : (ji13) ≤ 32 → (IntKind.i32.wrap (1 * 2 ^ (ji13).toNat)) = ji15 := shl_small hji15
                  have hji15u : (IntKind.i32.wrap (2 ^ min (ji13).toNat 32)) = ji15 := by have h_ := hji15_; rw [Int.one_mul] at h_; exact h_
                  have hji15v : (ji13) ≤ 32 → (IntKind.i32.wrap (2 ^ (ji13).toNat)) = ji15 := fun hle_ => by have h_ := hji15z hle_; rw [Int.one_mul] at h_; exact h_
                  have hji15y : (wrap32 (1 * 2 ^ min (ji13).toNat 32)) = ji15 := (i32_w _).symm.trans hji15_
                  have hji15x : (ji13) ≤ 32 → (wrap32 (1 * 2 ^ (ji13).toNat)) = ji15 := fun h_ => (i32_w _).symm.trans (hji15z h_)
                  have H' := Aside0.mk H
                  clear H
                  go_wp2
                  go_meet
                  case rel => exact ⟨_, (decide ((wrap32 ((wrap32 ((ji8) + (ji10))) - 1)) < (ji15))), (by first | rfl | (simp; done) | (simp only [← hji8, ← hji10, ← hji15] <;> (first | rfl | simp)) | (simp [*]; done)), H', ⟨by have := HK1.out; first | omega | exact Nat.le_refl _⟩, by repeat (first | exact Drawn0.refl _ | apply Drawn0.step)⟩
                · rw [if_neg c14] at H
                  exact absurd H (by simp)
              · rw [if_neg c12] at H
                have c12b0 : decide (4 < x7_1) = false := decide_eq_false c12
                clear c12
                (first | rw [c12b0] | (simp only [i64_w, i32_w]; rw [c12b0]) | skip)
                have H' := Aside0.mk H
                clear H
                go_wp2
                go_meet
                case rel => exact ⟨_, (false), (by first | rfl | (simp; done) | (simp [*]; done)), H', ⟨by have := HK1.out; first | omega | exact Nat.le_refl _⟩, by repeat (first | exact Drawn0.refl _ | apply Drawn0.step)⟩
            case rest =>
              clear HC11
              try clear c1
              try clear p2
              try clear p3
              try clear c4
              try clear c4b0
              try clear c5
              try clear c5b0
              try clear c6
              try clear p6
              try clear c7
              try clear c7b0
              try clear c7b1
              try clear c9
              try clear c9b0
              try clear c12
              try clear c12b0
              try clear c14
              try clear c14b0
              try clear c14b1
              try clear p2
              obtain ⟨kq, x43_10, rfl, HA, HJ10, ⟨mc10, rfl⟩⟩ := hcut
              cases kq with
              | zero => exact absurd HA.out (by simp [posternref07_grows.j1])
              | succ kj10 =>
                have H := HA.out
                clear HA
                simp only [posternref07_grows.j1] at H
                by_cases c16 : x43_10 = true
                · subst c16
                  have H1 : (posternref07_grows.l0 kj10 a0 a1 a2 (wrap64 (x7_1 + 1))) = some r := by rw [if_pos rfl] at H; exact H
                  clear H
                  have H := H1
                  clear H1
                  have H' := Aside0.mk H
                  clear H
                  go_wp2
                  go_roundg kj10
                  case measure => have := HK1.out; have := HJ10.out; omega
                  case rel => exact ⟨(wrap64 (x7_1 + 1)), (by first | rfl | (simp; done) | (simp [*]; done)), H', ⟨by have := HK1.out; have := HJ10.out; omega⟩, by repeat (first | exact Drawn0.refl _ | apply Drawn0.step)⟩
                · replace c16 := Bool.eq_false_iff.mpr c16
                  subst c16
                  have H1 : (if x7_1 > 4 then (if 0 ≤ (IntKind.u64.wrap (wrap64 (4 * (wrap64 (x7_1 - 1))))) then (posternref07_grows.j2 kj10 a0 a1 a2 x7_1 ji8 (wrap32 ((wrap32 ((ji8) + (ji10))) - 1)) (decide (ji8 < (shl .i32 1 (IntKind.u64.wrap (wrap64 (4 * (wrap64 (x7_1 - 1))))))))) else (none)) else (posternref07_grows.j2 kj10 a0 a1 a2 x7_1 ji8 (wrap32 ((wrap32 ((ji8) + (ji10))) - 1)) false)) = some r := by rw [if_neg (show ¬ (false = true) by decide)] at H; exact H
                  clear H
                  have H := H1
                  clear H1
                  have HC17 := Aside0.mk H
                  clear H
                  go_upto_region 8 with (fail)
                  go_cut [54] (fun v54 wc => ∃ (kq : Nat) (x54_16 : Bool), v54 = .bool x54_16 ∧ Aside0 (posternref07_grows.j2 kq a0 a1 a2 x7_1 ji8 (wrap32 ((wrap32 ((ji8) + (ji10))) - 1)) x54_16 = some r) ∧ Aside0 (kq ≤ kj10) ∧ Drawn0 w wc)
                  case first =>
                    have H := HC17.out
                    clear HC17
                    by_cases c18 : x7_1 > 4
                    · rw [if_pos c18] at H
                      have c18b0 : decide (4 < x7_1) = true := decide_eq_true c18
                      clear c18
                      (first | rw [c18b0] | (simp only [i64_w, i32_w]; rw [c18b0]) | skip)
                      obtain ⟨ji19, hji19⟩ : ∃ j_ : Int, (IntKind.u64.wrap (wrap64 (4 * (wrap64 (x7_1 - 1))))) = j_ := ⟨_, rfl⟩
                      replace H : (if 0 ≤ (ji19) then (posternref07_grows.j2 kj10 a0 a1 a2 x7_1 ji8 (wrap32 ((wrap32 ((ji8) + (ji10))) - 1)) (decide (ji8 < (shl .i32 1 (ji19))))) else (none)) = some r := by first | (rw [hji19] at H; exact H) | (simp only [hji19] at H ⊢; exact H)
                      by_cases c20 : 0 ≤ (ji19)
                      · rw [if_pos c20] at H
                        have c20b0 := eq_true c20
                        have c20b1 : decide (0 ≤ (ji19)) = true := decide_eq_true c20
                        clear c20
                        obtain ⟨ji21, hji21⟩ : ∃ j_ : Int, (shl .i32 1 (ji19)) = j_ := ⟨_, rfl⟩
                        replace H : (posternref07_grows.j2 kj10 a0 a1 a2 x7_1 ji8 (wrap32 ((wrap32 ((ji8) + (ji10))) - 1)) (decide (ji8 < (ji21)))) = some r := by first | (rw [hji21] at H; exact H) | (simp only [hji21] at H ⊢; exact H)
                        have hji21_ : (IntKind.i32.wrap (1 * 2 ^ min (ji19).toNat 32)) = ji21 := hji21
                        have hji21z : (ji19) ≤ 32 → (IntKind.i32.wrap (1 * 2 ^ (ji19).toNat)) = ji21 := shl_small hji21
                        have hji21u : (IntKind.i32.wrap (2 ^ min (ji19).toNat 32)) = ji21 := by have h_ := hji21_; rw [Int.one_mul] at h_; exact h_
                        have hji21v : (ji19) ≤ 32 → (IntKind.i32.wrap (2 ^ (ji19).toNat)) = ji21 := fun hle_ => by have h_ := hji21z hle_; rw [Int.one_mul] at h_; exact h_
                        have hji21y : (wrap32 (1 * 2 ^ min (ji19).toNat 32)) = ji21 := (i32_w _).symm.trans hji21_
                        have hji21x : (ji19) ≤ 32 → (wrap32 (1 * 2 ^ (ji19).toNat)) = ji21 := fun h_ => (i32_w _).symm.trans (hji21z h_)
                        have H' := Aside0.mk H
                        clear H
                        go_wp2
                        go_meet
                        case rel => exact ⟨_, (decide (ji8 < (ji21))), (by first | rfl | (simp; done) | (simp only [← hji8, ← hji21] <;> (first | rfl | simp)) | (simp [*]; done)), H', ⟨by have := HK1.out; have := HJ10.out; first | omega | exact Nat.le_refl _⟩, by repeat (first | exact Drawn0.refl _ | apply Drawn0.step)⟩
                      · rw [if_neg c20] at H
                        exact absurd H (by simp)
                    · rw [if_neg c18] at H
                      have c18b0 : decide (4 < x7_1) = false := decide_eq_false c18
                      clear c18
                      (first | rw [c18b0] | (simp only [i64_w, i32_w]; rw [c18b0]) | skip)
                      have H' := Aside0.mk H
                      clear H
                      go_wp2
                      go_meet
                      case rel => exact ⟨_, (false), (by first | rfl | (simp; done) | (simp [*]; done)), H', ⟨by have := HK1.out; have := HJ10.out; first | omega | exact Nat.le_refl _⟩, by repeat (first | exact Drawn0.refl _ | apply Drawn0.step)⟩
                  case rest =>
                    clear HC17
                    try clear c1
                    try clear c2
                    try clear p2
                    try clear p3
                    try clear c4
                    try clear c4b0
                    try clear c5
                    try clear c5b0
                    try clear c6
                    try clear p6
                    try clear c7
                    try clear c7b0
                    try clear c7b1
                    try clear c9
                    try clear c9b0
                    try clear c10
                    try clear c12
                    try clear c12b0
                    try clear c14
                    try clear c14b0
                    try clear c14b1
                    try clear c16
                    try clear c18
                    try clear c18b0
                    try clear c20
                    try clear c20b0
                    try clear c20b1
                    try clear p2
                    try clear p3
                    try clear p6
                    obtain ⟨kq, x54_16, rfl, HA, HJ16, ⟨mc16, rfl⟩⟩ := hcut
                    cases kq with
                    | zero => exact absurd HA.out (by simp [posternref07_grows.j2])
                    | succ kj16 =>
                      have H := HA.out
                      clear HA
                      simp only [posternref07_grows.j2] at H
                      have HC22 := Aside0.mk H
                      clear H
                      go_upto_if 54 with (fail)
                      go_cut [8] (fun v8 wc => ∃ (kq : Nat) (x8_21 : Int), v8 = .int .i32 x8_21 ∧ Aside0 (posternref07_grows.j3 kq a0 a1 a2 x7_1 x8_21 (wrap32 ((wrap32 ((ji8) + (ji10))) - 1)) = some r) ∧ Aside0 (kq ≤ kj16) ∧ Drawn0 w wc)
                      case first =>
                        have H := HC22.out
                        clear HC22
                        by_cases c23 : x54_16 = true
                        · subst c23
                          have H1 : (if 0 ≤ (IntKind.u64.wrap (wrap64 (4 * (wrap64 (x7_1 - 1))))) then (posternref07_grows.j3 kj16 a0 a1 a2 x7_1 (shl .i32 1 (IntKind.u64.wrap (wrap64 (4 * (wrap64 (x7_1 - 1)))))) (wrap32 ((wrap32 ((ji8) + (ji10))) - 1))) else (none)) = some r := by rw [if_pos rfl] at H; exact H
                          clear H
                          have H := H1
                          clear H1
                          obtain ⟨ji24, hji24⟩ : ∃ j_ : Int, (IntKind.u64.wrap (wrap64 (4 * (wrap64 (x7_1 - 1))))) = j_ := ⟨_, rfl⟩
                          replace H : (if 0 ≤ (ji24) then (posternref07_grows.j3 kj16 a0 a1 a2 x7_1 (shl .i32 1 (ji24)) (wrap32 ((wrap32 ((ji8) + (ji10))) - 1))) else (none)) = some r := by first | (rw [hji24] at H; exact H) | (simp only [hji24] at H ⊢; exact H)
                          by_cases c25 : 0 ≤ (ji24)
                          · rw [if_pos c25] at H
                            have c25b0 := eq_true c25
                            have c25b1 : decide (0 ≤ (ji24)) = true := decide_eq_true c25
                            clear c25
                            obtain ⟨ji26, hji26⟩ : ∃ j_ : Int, (shl .i32 1 (ji24)) = j_ := ⟨_, rfl⟩
                            replace H : (posternref07_grows.j3 kj16 a0 a1 a2 x7_1 ji26 (wrap32 ((wrap32 ((ji8) + (ji10))) - 1))) = some r := by first | (rw [hji26] at H; exact H) | (simp only [hji26] at H ⊢; exact H)
                            have hji26_ : (IntKind.i32.wrap (1 * 2 ^ min (ji24).toNat 32)) = ji26 := hji26
                            have hji26z : (ji24) ≤ 32 → (IntKind.i32.wrap (1 * 2 ^ (ji24).toNat)) = ji26 := shl_small hji26
                            have hji26u : (IntKind.i32.wrap (2 ^ min (ji24).toNat 32)) = ji26 := by have h_ := hji26_; rw [Int.one_mul] at h_; exact h_
                            have hji26v : (ji24) ≤ 32 → (IntKind.i32.wrap (2 ^ (ji24).toNat)) = ji26 := fun hle_ => by have h_ := hji26z hle_; rw [Int.one_mul] at h_; exact h_
                            have hji26y : (wrap32 (1 * 2 ^ min (ji24).toNat 32)) = ji26 := (i32_w _).symm.trans hji26_
                            have hji26x : (ji24) ≤ 32 → (wrap32 (1 * 2 ^ (ji24).toNat)) = ji26 := fun h_ => (i32_w _).symm.trans (hji26z h_)
                            have H' := Aside0.mk H
                            clear H
                            go_wp2
                            go_meet
                            case rel => exact ⟨_, (ji26), (by first | rfl | (simp; done) | (simp only [← hji26] <;> (first | rfl | simp)) | (simp [*]; done)), H', ⟨by have := HK1.out; have := HJ10.out; have := HJ16.out; first | omega | exact Nat.le_refl _⟩, by repeat (first | exact Drawn0.refl _ | apply Drawn0.step)⟩
                          · rw [if_neg c25] at H
                            exact absurd H (by simp)
                        · replace c23 := Bool.eq_false_iff.mpr c23
                          subst c23
                          have H1 : (posternref07_grows.j3 kj16 a0 a1 a2 x7_1 ji8 (wrap32 ((wrap32 ((ji8) + (ji10))) - 1))) = some r := by rw [if_neg (show ¬ (false = true) by decide)] at H; exact H
                          clear H
                          have H := H1
                          clear H1
                          have H' := Aside0.mk H
                          clear H
                          go_wp2
                          go_meet
                          case rel => exact ⟨_, (ji8), (by first | rfl | (simp; done) | (simp only [← hji8] <;> (first | rfl | simp)) | (simp [*]; done)), H', ⟨by have := HK1.out; have := HJ10.out; have := HJ16.out; first | omega | exact Nat.le_refl _⟩, by repeat (first | exact Drawn0.refl _ | apply Drawn0.step)⟩
                      case rest =>
                        clear HC22
                        try clear c1
                        try clear c2
                        try clear p2
                        try clear p3
                        try clear c4
                        try clear c4b0
                        try clear c5
                        try clear c5b0
                        try clear c6
                        try clear p6
                        try clear c7
                        try clear c7b0
                        try clear c7b1
                        try clear c9
                        try clear c9b0
                        try clear c10
                        try clear c12
                        try clear c12b0
                        try clear c14
                        try clear c14b0
                        try clear c14b1
                        try clear c16
                        try clear c18
                        try clear c18b0
                        try clear c20
                        try clear c20b0
                        try clear c20b1
                        try clear c23
                        try clear c25
                        try clear c25b0
                        try clear c25b1
                        try clear p2
                        try clear p3
                        try clear p6
                        obtain ⟨kq, x8_21, rfl, HA, HJ21, ⟨mc21, rfl⟩⟩ := hcut
                        cases kq with
                        | zero => exact absurd HA.out (by simp [posternref07_grows.j3])
                        | succ kj21 =>
                          have H := HA.out
                          clear HA
                          simp only [posternref07_grows.j3] at H
                          by_cases c27 : (wrap32 ((wrap32 ((ji8) + (ji10))) - 1)) > 1114111
                          · rw [if_pos c27] at H
                            have c27b0 : decide (1114111 < (wrap32 ((wrap32 ((ji8) + (ji10))) - 1))) = true := decide_eq_true c27
                            clear c27
                            by_cases c28 : 1114111 ≥ a2
                            · rw [if_pos c28] at H
                              have c28b0 : decide (a2 ≤ 1114111) = true := decide_eq_true c28
                              clear c28
                              by_cases c29 : 1114111 ≥ x8_21
                              · rw [if_pos c29] at H
                                have c29b0 : decide (x8_21 ≤ 1114111) = true := decide_eq_true c29
                                clear c29
                                obtain rfl := Option.some.inj H
                                go_wp2
                                go_ret
                                exact ⟨by first | rfl | (simp; done) | (simp only [← hji6, ← hji8, ← hji10] <;> (first | rfl | simp)) | (simp [*]; done), by repeat (first | exact Drawn0.refl _ | apply Drawn0.step)⟩
                              · rw [if_neg c29] at H
                                have c29b0 : decide (x8_21 ≤ 1114111) = false := decide_eq_false c29
                                clear c29
                                have H' := Aside0.mk H
                                clear H
                                go_wp2
                                go_roundg kj21
                                case measure => have := HK1.out; have := HJ10.out; have := HJ16.out; have := HJ21.out; omega
                                case rel => exact ⟨(wrap64 (x7_1 + 1)), (by first | rfl | (simp; done) | (simp [*]; done)), H', ⟨by have := HK1.out; have := HJ10.out; have := HJ16.out; have := HJ21.out; omega⟩, by repeat (first | exact Drawn0.refl _ | apply Drawn0.step)⟩
                            · rw [if_neg c28] at H
                              have c28b0 : decide (a2 ≤ 1114111) = false := decide_eq_false c28
                              clear c28
                              have H' := Aside0.mk H
                              clear H
                              go_wp2
                              go_roundg kj21
                              case measure => have := HK1.out; have := HJ10.out; have := HJ16.out; have := HJ21.out; omega
                              case rel => exact ⟨(wrap64 (x7_1 + 1)), (by first | rfl | (simp; done) | (simp [*]; done)), H', ⟨by have := HK1.out; have := HJ10.out; have := HJ16.out; have := HJ21.out; omega⟩, by repeat (first | exact Drawn0.refl _ | apply Drawn0.step)⟩
                          · rw [if_neg c27] at H
                            have c27b0 : decide (1114111 < (wrap32 ((wrap32 ((ji8) + (ji10))) - 1))) = false := decide_eq_false c27
                            clear c27
                            by_cases c30 : (wrap32 ((wrap32 ((ji8) + (ji10))) - 1)) ≥ a2
                            · rw [if_pos c30] at H
                              have c30b0 : decide (a2 ≤ (wrap32 ((wrap32 ((ji8) + (ji10))) - 1))) = true := decide_eq_true c30
                              clear c30
                              by_cases c31 : (wrap32 ((wrap32 ((ji8) + (ji10))) - 1)) ≥ x8_21
                              · rw [if_pos c31] at H
                                have c31b0 : decide (x8_21 ≤ (wrap32 ((wrap32 ((ji8) + (ji10))) - 1))) = true := decide_eq_true c31
                                clear c31
                                obtain rfl := Option.some.inj H
                                go_wp2
                                go_ret
                                exact ⟨by first | rfl | (simp; done) | (simp only [← hji6, ← hji8, ← hji10] <;> (first | rfl | simp)) | (simp [*]; done), by repeat (first | exact Drawn0.refl _ | apply Drawn0.step)⟩
                              · rw [if_neg c31] at H
                                have c31b0 : decide (x8_21 ≤ (wrap32 ((wrap32 ((ji8) + (ji10))) - 1))) = false := decide_eq_false c31
                                clear c31
                                have H' := Aside0.mk H
                                clear H
                                go_wp2
                                go_roundg kj21
                                case measure => have := HK1.out; have := HJ10.out; have := HJ16.out; have := HJ21.out; omega
                                case rel => exact ⟨(wrap64 (x7_1 + 1)), (by first | rfl | (simp; done) | (simp [*]; done)), H', ⟨by have := HK1.out; have := HJ10.out; have := HJ16.out; have := HJ21.out; omega⟩, by repeat (first | exact Drawn0.refl _ | apply Drawn0.step)⟩
                            · rw [if_neg c30] at H
                              have c30b0 : decide (a2 ≤ (wrap32 ((wrap32 ((ji8) + (ji10))) - 1))) = false := decide_eq_false c30
                              clear c30
                              have H' := Aside0.mk H
                              clear H
                              go_wp2
                              go_roundg kj21
                              case measure => have := HK1.out; have := HJ10.out; have := HJ16.out; have := HJ21.out; omega
                              case rel => exact ⟨(wrap64 (x7_1 + 1)), (by first | rfl | (simp; done) | (simp [*]; done)), H', ⟨by have := HK1.out; have := HJ10.out; have := HJ16.out; have := HJ21.out; omega⟩, by repeat (first | exact Drawn0.refl _ | apply Drawn0.step)⟩
          · rw [if_neg c7] at H
            exact absurd H (by simp)
      · rw [if_neg c4] at H
        have c4b0 : decide (x7_1 ≤ 6) = false := decide_eq_false c4
        clear c4
        obtain rfl := Option.some.inj H
        go_wp2
        go_ret
        exact ⟨by first | rfl | (simp; done) | (simp [*]; done), by repeat (first | exact Drawn0.refl _ | apply Drawn0.step)⟩

end Go.Proofs.Ytkpdccegamcppaa.PSpan
