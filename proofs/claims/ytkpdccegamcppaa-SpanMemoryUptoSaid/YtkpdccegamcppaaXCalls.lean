/- The span seat's functions as contracts with their answers; what holds in all later worlds. -/
import Derived.Test.YtkpdccegamcppaaXCallA
import Derived.Test.YtkpdccegamcppaaXSets
namespace Go.Proofs.Ytkpdccegamcppaa.PSpan
open Go.RowKit Go.Proofs.YtkpdccegamcppaaW.PrintWords Go.Proofs.YtkpdccegamcppaaW.PrintLast Go.Proofs.YtkpdccegamcppaaW.PrintMore Go.Proofs.Ytkpdccegamcppaa.SpanP
set_option linter.unusedVariables false
set_option linter.unusedSimpArgs false

theorem lists3 (w : World) {A0 A1 A2 : Option Addr} {c0 c1 c2 : Nat} {l0 l1 l2 : List Sn} (h0 : InP A0 c0 l0 w) (h1 : InP A1 c1 l1 w) (h2 : InP A2 c2 l2 w) :
    Kd.C (Kd.slice 50 k50) (w.alloc (.cells #[.slice A0 l0.length c0, .slice A1 l1.length c1, .slice A2 l2.length c2] 22)) (some ⟨w.heap.size, 0, none⟩) [l0, l1, l2].length [l0, l1, l2] := by
  have hb := below_alloc (Below.refl w.heap.size w) (.cells #[.slice A0 l0.length c0, .slice A1 l1.length c1, .slice A2 l2.length c2] 22)
  have hk := blk_new w [.slice A0 l0.length c0, .slice A1 l1.length c1, .slice A2 l2.length c2] 22
  refine ⟨rfl, by simp, fun _ => ⟨_, rfl, fun j p hp => ?_⟩⟩
  match j, hp with
  | 0, hp =>
    cases hp
    refine ⟨[.slice A0 l0.length c0], rfl, ⟨A0, c0, rfl, h0.2, Kd.C_below h0.1 hb⟩, fun i u hu => ?_⟩
    match i, hu with
    | 0, hu => cases hu; exact hk.cell 0
  | 1, hp =>
    cases hp
    refine ⟨[.slice A1 l1.length c1], rfl, ⟨A1, c1, rfl, h1.2, Kd.C_below h1.1 hb⟩, fun i u hu => ?_⟩
    match i, hu with
    | 0, hu => cases hu; exact hk.cell 1
  | 2, hp =>
    cases hp
    refine ⟨[.slice A2 l2.length c2], rfl, ⟨A2, c2, rfl, h2.2, Kd.C_below h2.1 hb⟩, fun i u hu => ?_⟩
    match i, hu with
    | 0, hu => cases hu; exact hk.cell 2
theorem lists2 (w : World) {A0 A1 : Option Addr} {c0 c1 : Nat} {l0 l1 : List Sn} (h0 : InP A0 c0 l0 w) (h1 : InP A1 c1 l1 w) :
    Kd.C (Kd.slice 50 k50) (w.alloc (.cells #[.slice A0 l0.length c0, .slice A1 l1.length c1] 22)) (some ⟨w.heap.size, 0, none⟩) [l0, l1].length [l0, l1] := by
  have hb := below_alloc (Below.refl w.heap.size w) (.cells #[.slice A0 l0.length c0, .slice A1 l1.length c1] 22)
  have hk := blk_new w [.slice A0 l0.length c0, .slice A1 l1.length c1] 22
  refine ⟨rfl, by simp, fun _ => ⟨_, rfl, fun j p hp => ?_⟩⟩
  match j, hp with
  | 0, hp =>
    cases hp
    refine ⟨[.slice A0 l0.length c0], rfl, ⟨A0, c0, rfl, h0.2, Kd.C_below h0.1 hb⟩, fun i u hu => ?_⟩
    match i, hu with
    | 0, hu => cases hu; exact hk.cell 0
  | 1, hp =>
    cases hp
    refine ⟨[.slice A1 l1.length c1], rfl, ⟨A1, c1, rfl, h1.2, Kd.C_below h1.1 hb⟩, fun i u hu => ?_⟩
    match i, hu with
    | 0, hu => cases hu; exact hk.cell 1
section
variable {W : World} {A0 A1 A2 : Option Addr} {c0 c1 c2 : Nat} {l0 l1 l2 : List Sn}
theorem c_union3 {r : List Sn} {n m : Int} (h0 : InP A0 c0 l0 W) (h1 : InP A1 c1 l1 W) (h2 : InP A2 c2 l2 W) (ev : Ev (fun k => span_Union.f k [l0, l1, l2]) (r, n, m)) :
    Calls Try.prog 21 #[.slice (some ⟨W.heap.size, 0, none⟩) 3 3] (W.alloc (.cells #[.slice A0 l0.length c0, .slice A1 l1.length c1, .slice A2 l2.length c2] 22)) (P3 W r n m) := by
  obtain ⟨k, hk⟩ := ev.rounds
  refine (span_Union.calls k _ 3 _ r n m _ (lists3 W h0 h1 h2) (Nat.le_refl _) hk).mono ?_
  rintro e w' ⟨v, rfl, hR, hb⟩
  obtain ⟨A, c, rfl, hI⟩ := own_P (w := W) hR
  exact ⟨A, c, rfl, hI, below_lit hb⟩
theorem c_union2 {r : List Sn} {n m : Int} (h0 : InP A0 c0 l0 W) (h1 : InP A1 c1 l1 W) (ev : Ev (fun k => span_Union.f k [l0, l1]) (r, n, m)) :
    Calls Try.prog 21 #[.slice (some ⟨W.heap.size, 0, none⟩) 2 2] (W.alloc (.cells #[.slice A0 l0.length c0, .slice A1 l1.length c1] 22)) (P3 W r n m) := by
  obtain ⟨k, hk⟩ := ev.rounds
  refine (span_Union.calls k _ 2 _ r n m _ (lists2 W h0 h1) (Nat.le_refl _) hk).mono ?_
  rintro e w' ⟨v, rfl, hR, hb⟩
  obtain ⟨A, c, rfl, hI⟩ := own_P (w := W) hR
  exact ⟨A, c, rfl, hI, below_lit hb⟩
theorem c_union0 (W : World) : Calls Try.prog 21 #[.slice none 0 0] W (P3 W [] 0 0) := by
  have ev : Ev (fun k => span_Union.f k []) ([], 0, 0) := by
    rcases union_ev [] (by simp) (fun l hl => by cases hl) with ⟨_, r, k2, k3, k4, k5⟩ | ⟨k1, _⟩
    · obtain rfl : r = [] := List.eq_nil_of_length_eq_zero (by have := k5.1; simpa using this)
      exact k2
    · cases k1
  obtain ⟨k, hk⟩ := ev.rounds
  refine (span_Union.calls k none 0 [] [] 0 0 W ⟨rfl, Nat.zero_le _, fun h => absurd h (Nat.lt_irrefl 0)⟩ (Nat.le_refl _) hk).mono ?_
  rintro e w' ⟨v, rfl, hR, hb⟩
  obtain ⟨A, c, rfl, hI⟩ := own_P (w := W) hR
  exact ⟨A, c, rfl, hI, hb⟩
theorem c_refused3 {n : Int} {b : Bool} (h0 : InP A0 c0 l0 W) (h1 : InP A1 c1 l1 W) (h2 : InP A2 c2 l2 W) (ev : Ev (fun k => posternlaw07_refused.f k [l0, l1, l2]) (n, b)) :
    Calls Try.prog 25 #[.slice (some ⟨W.heap.size, 0, none⟩) 3 3] (W.alloc (.cells #[.slice A0 l0.length c0, .slice A1 l1.length c1, .slice A2 l2.length c2] 22)) (PIB W n b) := by
  obtain ⟨k, hk⟩ := ev.rounds
  refine (posternlaw07_refused.calls k _ 3 _ n b _ (lists3 W h0 h1 h2) (Nat.le_refl _) hk).mono ?_
  rintro e w' ⟨rfl, hb⟩
  exact ⟨rfl, below_lit hb⟩
theorem c_refused2 {n : Int} {b : Bool} (h0 : InP A0 c0 l0 W) (h1 : InP A1 c1 l1 W) (ev : Ev (fun k => posternlaw07_refused.f k [l0, l1]) (n, b)) :
    Calls Try.prog 25 #[.slice (some ⟨W.heap.size, 0, none⟩) 2 2] (W.alloc (.cells #[.slice A0 l0.length c0, .slice A1 l1.length c1] 22)) (PIB W n b) := by
  obtain ⟨k, hk⟩ := ev.rounds
  refine (posternlaw07_refused.calls k _ 2 _ n b _ (lists2 W h0 h1) (Nat.le_refl _) hk).mono ?_
  rintro e w' ⟨rfl, hb⟩
  exact ⟨rfl, below_lit hb⟩
theorem c_cross {r : List Sn} {m : Int} (h0 : InP A0 c0 l0 W) (h1 : InP A1 c1 l1 W) (ev : Ev (fun k => span_Cross.f k l0 l1) (r, m)) : Calls Try.prog 22 #[.slice A0 l0.length c0, .slice A1 l1.length c1] W (P2 W r m) := by
  obtain ⟨k, hk⟩ := ev.rounds
  refine (span_Cross.calls k A0 c0 l0 A1 c1 l1 r m W h0.1 h0.2 h1.1 h1.2 hk).mono ?_
  rintro e w' ⟨v, rfl, hR, hb⟩
  obtain ⟨A, c, rfl, hI⟩ := own_P (w := W) hR
  exact ⟨A, c, rfl, hI, hb⟩
theorem c_minus {r : List Sn} {m : Int} (h0 : InP A0 c0 l0 W) (h1 : InP A1 c1 l1 W) (ev : Ev (fun k => span_Minus.f k l0 l1) (r, m)) : Calls Try.prog 23 #[.slice A0 l0.length c0, .slice A1 l1.length c1] W (P2 W r m) := by
  obtain ⟨k, hk⟩ := ev.rounds
  refine (span_Minus.calls k A0 c0 l0 A1 c1 l1 r m W h0.1 h0.2 h1.1 h1.2 hk).mono ?_
  rintro e w' ⟨v, rfl, hR, hb⟩
  obtain ⟨A, c, rfl, hI⟩ := own_P (w := W) hR
  exact ⟨A, c, rfl, hI, hb⟩
theorem c_other {r : List Sn} {m : Int} (h0 : InP A0 c0 l0 W) (ev : Ev (fun k => span_Other.f k l0) (r, m)) : Calls Try.prog 24 #[.slice A0 l0.length c0] W (P2 W r m) := by
  obtain ⟨k, hk⟩ := ev.rounds
  refine (span_Other.calls k A0 c0 l0 r m W h0.1 h0.2 hk).mono ?_
  rintro e w' ⟨v, rfl, hR, hb⟩
  obtain ⟨A, c, rfl, hI⟩ := own_P (w := W) hR
  exact ⟨A, c, rfl, hI, hb⟩
theorem c_told {q : List Q} {m : Int} {b : Bool} (h0 : InP A0 c0 l0 W) (h1 : InQ A1 c1 q W) (ev : Ev (fun k => posternlaw07_told.f k l0 m q) b) : Calls Try.prog 26 #[.slice A0 l0.length c0, .int .i64 m, .slice A1 q.length c1] W (PB W b) := by
  obtain ⟨k, hk⟩ := ev.rounds
  exact (posternlaw07_told.calls k A0 c0 l0 m A1 c1 q b W h0.1 h0.2 h1.1 h1.2 hk).mono fun e w' ⟨he, hd⟩ => ⟨he, hd.below⟩

end

end Go.Proofs.Ytkpdccegamcppaa.PSpan
