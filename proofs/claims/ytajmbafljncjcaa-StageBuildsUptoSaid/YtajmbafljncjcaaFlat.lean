/- flat: has a block one number alone? -/
import Derived.Test.YtajmbafljncjcaaCanon
namespace Go.Proofs.Ytajmbafljncjcaa.Stage
open Go.RowKit Go.Proofs.YtajmbafljncjcaaW.PrintWords Go.Proofs.YtajmbafljncjcaaW.PrintLast Go.Proofs.YtajmbafljncjcaaW.PrintMore
set_option linter.unusedVariables false
set_option linter.unusedSimpArgs false

theorem flatB_true {xs : List Nat} (h : ∀ j, j < 128 → xs.getD j 0 = xs.getD 0 0) : flatB xs = true := by
  unfold flatB
  rw [List.all_eq_true]
  intro j hj
  have h1 := List.mem_range.1 hj
  simpa using h j h1
theorem flatB_false {xs : List Nat} {j : Nat} (hj : j < 128) (h : ¬ xs.getD j 0 = xs.getD 0 0) : flatB xs = false := by
  unfold flatB
  rw [List.all_eq_false]
  exact ⟨j, List.mem_range.2 hj, by simpa using h⟩

set_option maxRecDepth 100000 in
set_option maxHeartbeats 400000 in
theorem flat_calls (w : World) (B : Nat) (xs : List Nat) (hc : ∀ j, j < 128 → w.cell? ⟨B, j, none⟩ = some (.int .u16 (xs.getD j 0 : Nat))) :
    Calls Try.prog 92 #[.pointer (some ⟨B, 0, none⟩)] w fun e w' => e = .returned (.bool (flatB xs)) ∧ w = w' := by
  have h0 := hc 0 (by omega)
  have HC := Aside0.mk hc
  clear hc
  go_enter Try.func92, Try.ntmps92
  go_wp2
  go_loop [6] (fun i => ∃ k : Nat, k ≤ 128 ∧ i = .int .i64 k ∧ Aside0 (∀ j, j < k → xs.getD j 0 = xs.getD 0 0)) (fun i => 128 - (intOf i).toNat)
  case atStart => exact ⟨0, by omega, rfl, ⟨fun j hj => by omega⟩⟩
  case round =>
    obtain ⟨k, hk, rfl, hA⟩ := hrel
    by_cases hlt : k < 128
    · have hck := HC.out k hlt
      have hlt' : (k : Int) < 128 := by omega
      by_cases he : xs.getD k 0 = xs.getD 0 0
      · rw [he] at hck
        have HE := Aside0.mk he
        clear he
        go_wp2
        go_round
        case rel => exact ⟨k + 1, by omega, by go_num, ⟨fun j hj => by
          rcases Nat.lt_or_ge j k with h | h
          · exact hA.out j h
          · have : j = k := by omega
            rw [this]; exact HE.out⟩⟩
        case measure => simp [intOf]; omega
      · have hF := Aside0.mk (flatB_false hlt he)
        have hne : ¬ ((xs.getD k 0 : Nat) : Int) = ((xs.getD 0 0 : Nat) : Int) := by omega
        generalize xs.getD 0 0 = x0 at h0 hne
        generalize xs.getD k 0 = xk at hck hne
        clear he
        go_wp2
        go_ret
        exact ⟨by rw [hF.out]; rfl, rfl⟩
    · have hF := Aside0.mk (flatB_true (fun j hj => hA.out j (by omega)))
      have hge : ¬ (k : Int) < 128 := by omega
      go_wp2
      go_ret
      exact ⟨by rw [hF.out]; rfl, rfl⟩

end Go.Proofs.Ytajmbafljncjcaa.Stage
