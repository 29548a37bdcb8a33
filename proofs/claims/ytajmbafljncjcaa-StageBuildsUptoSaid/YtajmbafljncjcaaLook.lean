/- Look: what a table says of a code point. -/
import Derived.Test.YtajmbafljncjcaaTab
namespace Go.Proofs.Ytajmbafljncjcaa.Stage
open Go.RowKit Go.Proofs.YtajmbafljncjcaaW.PrintWords Go.Proofs.YtajmbafljncjcaaW.PrintLast Go.Proofs.YtajmbafljncjcaaW.PrintMore
set_option linter.unusedVariables false
set_option linter.unusedSimpArgs false

theorem look_nil (p : Int) (w : World) : Calls Try.prog 17 #[.pointer none, .int .i32 p] w fun e w' => e = .returned (.int .i64 0) ∧ w = w' := by
  go_enter Try.func17, Try.ntmps17
  go_wp2
  go_ret
  exact ⟨rfl, rfl⟩

set_option maxRecDepth 100000 in
set_option maxHeartbeats 400000 in
theorem look_in {w : World} {b g c g' c' : Nat} {t : Tab} (h : TabIn w b g c g' c' t) (p : Int) (h0 : 0 ≤ p) (h1 : p ≤ 1114111) :
    Calls Try.prog 17 #[.pointer (some ⟨b, 0, none⟩), .int .i32 p] w fun e w' => e = .returned (.int .i64 (t.say p.toNat : Nat)) ∧ ∃ n, w' = w.drewN n := by
  obtain ⟨q, rfl⟩ := Int.eq_ofNat_of_zero_le h0
  rw [Int.toNat_natCast]
  have e1 : IntKind.i32.wrap ((q : Int) / 128) = ((q / 128 : Nat) : Int) := by rw [IntWalk.i32_in _ (by omega)]; omega
  have e2 : (q : Int).tmod 128 = ((q % 128 : Nat) : Int) := by rw [Int.tmod_eq_emod_of_nonneg (by omega)]; omega
  have hs : t.say q = (t.unlike.getD (t.which.getD (q / 128) 0) []).getD (q % 128) 0 := rfl
  have l1 : q / 128 < 8704 := by omega
  have l2 : q % 128 < 128 := by omega
  generalize q / 128 = i at e1 hs l1
  generalize q % 128 = j at e2 hs l2
  have hx := h.idx i l1
  have hcw := h.hw i l1
  generalize t.which.getD i 0 = x at hx hcw hs
  have hcu := h.hu
  have hcb := h.hub x j hx l2
  have hn := h.num x j hx l2
  rw [← hs] at hcb hn
  generalize t.say q = y at hcb hn
  generalize t.unlike.length = m at hx hcu
  have l1' : (i : Int) < 8704 := by omega
  have l2' : (j : Int) < 128 := by omega
  clear h hs
  go_enter Try.func17, Try.ntmps17
  go_wp2
  go_quiet (fail)
  go_wp2
  go_ret
  exact ⟨rfl, nq, rfl⟩

end Go.Proofs.Ytajmbafljncjcaa.Stage
