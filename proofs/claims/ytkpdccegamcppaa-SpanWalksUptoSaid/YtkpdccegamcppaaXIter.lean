/- The iterator over the code points of a set of spans: its contract. -/
import Derived.Test.YtkpdccegamcppaaXKq
import Derived.Shelf.Abstract
import Derived.Shelf.RegionOpen
import Derived.WalkKit
import Derived.OwnWalkIn
import Derived.TacticsInMore
import Derived.LoopNIn
import Derived.LoopIn
namespace Go.Proofs.Ytkpdccegamcppaa.PSpan
open Go.RowKit Go.Shelf Go.Proofs.YtkpdccegamcppaaW.PrintWords Go.Proofs.YtkpdccegamcppaaW.PrintLast Go.Proofs.YtkpdccegamcppaaW.PrintMore Go.Proofs.Ytkpdccegamcppaa.SpanP
set_option linter.unusedVariables false
set_option linter.unusedSimpArgs false

attribute [local go_sem] Oper.semAt_some

set_option maxRecDepth 100000 in
set_option maxHeartbeats 2000000 in
theorem iter_in (F : Fence) (n : Nat) (hF : F.fn 47) (hro : F.round = none) (hn : 1 ≤ n) (lp B B0 : Nat) (S : Nat → Prop) {A : Option Addr} {c : Nat} {l : List Sn} (hm : mayL l = true) (hl : l.length ≤ 1048576) (J Jx : List Int → World → Prop) (W : World)
    (hJ : AbidesFrom W.heap.size J) (hB0 : B0 ≤ W.heap.size) (hS : ∀ k, S k → k < W.heap.size)
    (hY : ∀ pre x W1, J pre W1 → pre.length < (pts l).length → YieldAt F (n - 1) Try.prog lp #[.int .i32 x] W1 fun e W' =>
      (e = .returned (.bool true) ∧ J (pre ++ [x]) W' ∧ Kq S B0 W1 W') ∨ (e = .returned (.bool false) ∧ Jx (pre ++ [x]) W'))
    (hB : W.cell? ⟨B, 0, none⟩ = some (.slice A l.length c)) (hSB : ¬ S B) (hI : InP A c l W) (hSA : ∀ ad, A = some ad → 0 < l.length → ¬ S ad.block) (h0 : J [] W) :
    CallsIn F n Try.prog 47 #[.func (.yield lp) #[] #[], .pointer (some ⟨B, 0, none⟩)] W fun e W' => (∃ v, e = .returned v) ∧
      ((∃ ys, ys = pts l ∧ J ys W') ∨ (∃ pre, pre <+: pts l ∧ Jx pre W')) := by
  refine callsIn_of_wp Try.func47 rfl hF ?_ hro
  simp only [Try.ntmps47, List.size_toArray, List.length_cons, List.length_nil, Nat.reduceAdd, Nat.reduceSub, Array.replicate_succ, Array.replicate_zero, List.push_toArray, List.append_toArray, List.nil_append, List.cons_append]
  gi_wp2
  gi_loopw [8] (fun i wr => ∃ k : Nat, k ≤ l.length ∧ i = .int .i64 k ∧ Aside0 (J (pts (l.take k)) wr) ∧ Aside0 (Kq S B0 W wr))
    (fun i _ => l.length - (intOf i).toNat)
  case atStart => exact ⟨0, Nat.zero_le _, rfl, ⟨h0⟩, ⟨Kq.refl _ _ _⟩⟩
  case round =>
    obtain ⟨k, hk, rfl, hJs, hK⟩ := hrel
    by_cases hlt : k < l.length
    · have hlt' : (k : Int) < (l.length : Int) := by omega
      obtain ⟨ad, rfl, k0, k1⟩ := at_T50 (hK.out.inP hI hSA).1 (k : Int) (by omega) (by omega)
      rw [rdp_eq l k hlt] at k0 k1
      rw [Int.toNat_natCast] at k0 k1
      have hx := may_at hm k hlt
      have hpk := pts_take hlt
      have hle : (lenP l[k] : Int) = l[k].f1 - l[k].f0 + 1 := by unfold lenP; omega
      have hpl : ∀ j, j ≤ lenP l[k] → (pts (l.take k) ++ runP l[k].f0 j) <+: pts l := fun j hj => by
        have e : pts l = pts (l.take (k + 1)) ++ pts (l.drop (k + 1)) := by rw [← pts_app, List.take_append_drop]
        rw [e, hpk, List.append_assoc]
        refine List.prefix_append_right_inj _ |>.2 ?_
        refine List.IsPrefix.trans ?_ (List.prefix_append _ _)
        unfold runP
        rw [show List.range j = (List.range (lenP l[k])).take j by rw [List.take_range, Nat.min_eq_left hj], List.map_take]
        exact List.take_prefix _ _
      have HPL := Aside0.mk hpl
      have HPK := Aside0.mk hpk
      clear hpl hpk
      generalize l[k].f0 = f0 at *
      generalize l[k].f1 = f1 at *
      generalize lenP l[k] = cnt at *
      have hw : wrap32 (wrap32 (f1 - f0) + 1) = (cnt : Int) := by unfold wrap32; omega
      have hnb : ¬ S wr.heap.size := fun h => by have := hS _ h; have := hK.out.1.size; omega
      have hJ1 := Aside0.mk (show J (pts (l.take k) ++ runP f0 0) (wr.alloc (.cells #[.int .i32 f0, .int .i32 f1] 50)) from by
        rw [show runP f0 0 = [] from rfl, List.append_nil]
        exact hJ _ _ _ none hJs.out (World.grownBy_alloc wr _ none) (fun r e => by cases e))
      have hK1 := Aside0.mk (show Kq S B0 W (wr.alloc (.cells #[.int .i32 f0, .int .i32 f1] 50)) from hK.out.trans (Kq.of_below (below_alloc (Below.refl _ _) _) (Nat.le_trans hB0 hK.out.1.size)))
      have hc1 : (wr.alloc (.cells #[.int .i32 f0, .int .i32 f1] 50)).cell? ⟨wr.heap.size, 0, none⟩ = some (.int .i32 f0) := by simp
      gi_wp2
      generalize (wr.alloc (.cells #[.int .i32 f0, .int .i32 f1] 50)) = wa at *
      generalize wr.heap.size = gb at *
      gi_loopw [18] (fun v18 wr2 => ∃ j : Nat, j ≤ cnt ∧ v18 = .int .i32 j ∧ Aside0 (J (pts (l.take k) ++ runP f0 j) wr2) ∧ Aside0 (Kq S B0 W wr2) ∧ wr2.cell? ⟨gb, 0, none⟩ = some (.int .i32 f0))
        (fun v18 _ => cnt - (intOf v18).toNat)
      case atStart => exact ⟨0, Nat.zero_le _, rfl, hJ1, hK1, hc1⟩
      case round =>
        obtain ⟨j, hj, rfl, hJj, hKj, hcj⟩ := hrel
        clear hJ1 hK1 hc1
        by_cases hjl : j < cnt
        · have hjl' : (j : Int) < (cnt : Int) := by omega
          have hws : wrap32 (f0 + (j : Int)) = f0 + (j : Int) := by unfold wrap32; omega
          have hpre := HPL.out (j + 1) hjl
          rw [runP_succ, ← List.append_assoc] at hpre
          obtain ⟨fn, tmps, assign, body, hy, hR⟩ := hY _ (f0 + (j : Int)) _ hJj.out (by have := hpre.length_le; rw [List.length_append, List.length_singleton] at this; omega)
          have HPRE := Aside0.mk hpre
          clear hpre
          gi_wp2
          refine hR.mono ?_
          rintro e W3 (⟨rfl, hJ3, hk3⟩ | ⟨rfl, hJx3⟩)
          · have hc3 := hk3.cell hcj hnb
            have HJ3 := Aside0.mk (show J (pts (l.take k) ++ runP f0 (j + 1)) W3 from by rw [runP_succ, ← List.append_assoc]; exact hJ3)
            have HK3 := Aside0.mk (hKj.out.trans hk3)
            clear hJ3 hk3 hR hy
            gi_wp2
            go_roundw
            case rel => exact ⟨j + 1, by omega, by go_num, HJ3, HK3, hc3⟩
            case measure => simp [intOf]; omega
          · gi_wp2
            refine bodyPost_ret (results_none rfl _ _ _) rfl ?_
            exact ⟨⟨_, rfl⟩, .inr ⟨_, HPRE.out, hJx3⟩⟩
        · obtain rfl : j = cnt := by omega
          have HJ4 := Aside0.mk (show J (pts (l.take (k + 1))) _ from by rw [HPK.out]; exact hJj.out)
          gi_wp2
          go_roundw
          case rel => exact ⟨k + 1, by omega, by go_num, HJ4, hKj⟩
          case measure => simp [intOf]; omega
    · obtain rfl : k = l.length := by omega
      gi_wp2
      go_end0
      rw [List.take_length] at hJs
      exact ⟨⟨_, rfl⟩, .inl ⟨_, rfl, hJs.out⟩⟩

theorem all_stops (F : Fence) (n : Nat) (hF : F.fn 47) (hro : F.round = none) (hn : 1 ≤ n) {B B0 : Nat} {S : Nat → Prop} {A : Option Addr} {c : Nat} {l : List Sn} (w : World) (hm : mayL l = true) (hl : l.length ≤ 1048576)
    (hB0 : B0 ≤ w.heap.size) (hS : ∀ k, S k → k < w.heap.size) (hB : w.cell? ⟨B, 0, none⟩ = some (.slice A l.length c)) (hSB : ¬ S B) (hI : InP A c l w) (hSA : ∀ ad, A = some ad → 0 < l.length → ¬ S ad.block) :
    SeqStopsK F n Try.prog 47 #[.pointer (some ⟨B, 0, none⟩)] (fun x : Int => #[Value.int .i32 x]) (Kq S B0) (fun ys => ys = pts l) (fun pre => pre <+: pts l) (pts l).length w := fun lp J Jx W hW hJ _ hY h0 => by
  have hlt : B < w.heap.size := by
    obtain ⟨o, h1, _⟩ := cells_of_cell hB
    exact (Array.getElem?_eq_some_iff.1 h1).1
  exact iter_in F n hF hro hn lp B B0 S hm hl J Jx W hJ (Nat.le_trans hB0 hW.size) (fun k hk => Nat.lt_of_lt_of_le (hS k hk) hW.size) hY ((hW.cell (p := ⟨B, 0, none⟩) hlt).trans hB) hSB ⟨Kd.C_below hI.1 hW, hI.2⟩ hSA h0

end Go.Proofs.Ytkpdccegamcppaa.PSpan
