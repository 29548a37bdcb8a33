/- The document's cut, printed, and plain lists. -/
import Derived.Test.YtajmbafljncjcaaRefBStageOver
import Derived.Test.YtajmbafljncjcaaPStageOverx3
import Derived.Test.YtajmbafljncjcaaPStageOverx1
namespace Go.Proofs.Ytajmbafljncjcaa.PStageOver
open Go.RowKit Go.Proofs.YtajmbafljncjcaaW.PrintWords Go.Proofs.YtajmbafljncjcaaW.PrintLast Go.Proofs.YtajmbafljncjcaaW.PrintMore Go.Proofs.Ytajmbafljncjcaa.Stage
set_option linter.unusedVariables false
set_option linter.unusedSimpArgs false

theorem cut_l {later : List (Nat × Nat × Nat)} (hl : later.length ≤ 1114112) (t n : Nat) (ht : t ≤ 1114111) : ∀ (d k i fr low : Nat) (out : List (Nat × Nat × Nat)), i + d = later.length → 2 * d < k → fr ≤ 1114112 → RiseN low (later.drop i) → out.length + 2 * d ≤ 4194304 →
    posternref08_cut.l0 k (fr : Int) (t : Int) (n : Int) (out.map toS) (later.map toS) (later.length : Int) (i : Int) = some ((cutN (later.drop i) fr t n out).map toS) := by
  intro d
  induction d with
  | zero =>
    intro k i fr low out hi hk hf hr ho
    obtain ⟨k, rfl⟩ : ∃ m, k = m + 1 := ⟨k - 1, by omega⟩
    simp only [posternref08_cut.l0]
    rw [if_neg (show ¬ (i : Int) < (later.length : Int) by omega), List.drop_of_length_le (by omega), List.length_map]
    have c3 : out.length < 5864062014805 := by omega
    simp only [cutN]
    by_cases c : fr ≤ t
    · rw [if_pos (show (fr : Int) ≤ (t : Int) by omega), if_pos c, if_pos c3, List.map_append]
      rfl
    · rw [if_neg (show ¬ (fr : Int) ≤ (t : Int) by omega), if_neg c]
  | succ d ih =>
    intro k i fr low out hi hk hf hr ho
    obtain ⟨k, rfl⟩ : ∃ m, k = m + 2 := ⟨k - 2, by omega⟩
    have hlt : i < later.length := by omega
    have hread := rd_map later i hlt
    rw [drop_q later i hlt] at hr ⊢
    simp only [posternref08_cut.l0, posternref08_cut.j1, List.length_map]
    rw [hread]
    generalize later.getD i z3 = y at hr ⊢
    obtain ⟨r1, r2, r3, r4, r5⟩ := hr
    have h0 : (toS y).f0 = (y.1 : Int) := rfl
    have h1 : (toS y).f1 = (y.2.1 : Int) := rfl
    have h2 : (toS y).f2 = (y.2.2 : Int) := rfl
    have c1 : (i : Int) < (later.length : Int) := by omega
    have c2 : (0 : Int) ≤ (i : Int) := by omega
    have c3 : out.length < 5864062014805 := by omega
    have c4 : out.length + 1 < 5864062014805 := by omega
    have e1 := Aside0.mk (show wrap64 ((i : Int) + 1) = ((i + 1 : Nat) : Int) by rw [w64 (by omega) (by omega)]; omega)
    have e2 := Aside0.mk (show wrap64 ((t : Int) + 1) = ((t + 1 : Nat) : Int) by rw [w64 (by omega) (by omega)]; omega)
    have e3 := Aside0.mk (show wrap64 ((y.2.1 : Int) + 1) = ((y.2.1 + 1 : Nat) : Int) by rw [w64 (by omega) (by omega)]; omega)
    simp only [if_pos c1, if_pos c2, if_pos c3, List.length_append, List.length_map, List.length_singleton, if_pos c4, Option.bind_some]
    rw [h0, h1, h2, e1.out, e2.out, e3.out]
    unfold cutN
    by_cases a1 : y.2.1 < fr
    · rw [if_pos (show (y.2.1 : Int) < (fr : Int) by omega), if_pos trivial, if_pos (show y.2.1 < fr ∨ t < y.1 from .inl a1)]
      exact ih k (i + 1) fr _ out (by omega) (by omega) hf r5 (by omega)
    · rw [if_neg (show ¬ (y.2.1 : Int) < (fr : Int) by omega)]
      by_cases a2 : t < y.1
      · rw [decide_eq_true (show (y.1 : Int) > (t : Int) by omega), if_pos rfl, if_pos (show y.2.1 < fr ∨ t < y.1 from .inr a2)]
        exact ih k (i + 1) fr _ out (by omega) (by omega) hf r5 (by omega)
      · rw [decide_eq_false (show ¬ (y.1 : Int) > (t : Int) by omega), if_neg (show ¬ (false = true) by decide), if_neg (show ¬ (y.2.1 < fr ∨ t < y.1) by omega)]
        by_cases a3 : fr < y.1
        · have e4 := Aside0.mk (show wrap64 ((y.1 : Int) - 1) = ((y.1 - 1 : Nat) : Int) by rw [w64 (by omega) (by omega)]; omega)
          rw [if_pos (show (y.1 : Int) > (fr : Int) by omega), if_pos a3, e4.out]
          by_cases a4 : t < y.2.1
          · rw [if_pos (show (y.2.1 : Int) > (t : Int) by omega), show min y.2.1 t = t by omega]
            have := ih k (i + 1) (t + 1) _ (out ++ [(fr, y.1 - 1, n)] ++ [(y.1, t, y.2.2)]) (by omega) (by omega) (by omega) r5 (by simp; omega)
            rw [List.map_append, List.map_append] at this
            exact this
          · rw [if_neg (show ¬ (y.2.1 : Int) > (t : Int) by omega), show min y.2.1 t = y.2.1 by omega]
            have := ih k (i + 1) (y.2.1 + 1) _ (out ++ [(fr, y.1 - 1, n)] ++ [(y.1, y.2.1, y.2.2)]) (by omega) (by omega) (by omega) r5 (by simp; omega)
            rw [List.map_append, List.map_append] at this
            exact this
        · rw [if_neg (show ¬ (y.1 : Int) > (fr : Int) by omega), if_neg a3]
          by_cases a4 : t < y.2.1
          · rw [if_pos (show (y.2.1 : Int) > (t : Int) by omega), show min y.2.1 t = t by omega]
            have := ih k (i + 1) (t + 1) _ (out ++ [(fr, t, y.2.2)]) (by omega) (by omega) (by omega) r5 (by simp; omega)
            rw [List.map_append] at this
            exact this
          · rw [if_neg (show ¬ (y.2.1 : Int) > (t : Int) by omega), show min y.2.1 t = y.2.1 by omega]
            have := ih k (i + 1) (y.2.1 + 1) _ (out ++ [(fr, y.2.1, y.2.2)]) (by omega) (by omega) (by omega) r5 (by simp; omega)
            rw [List.map_append] at this
            exact this
theorem cut_f {later : List (Nat × Nat × Nat)} (hl : later.length ≤ 1114112) (hr : RiseN 0 later) (fr t n k : Nat) (hf : fr ≤ 1114112) (ht : t ≤ 1114111) (hk : 2 * later.length < k) :
    posternref08_cut.f k (later.map toS) (fr : Int) (t : Int) (n : Int) = some ((cutN later fr t n []).map toS) := by
  unfold posternref08_cut.f
  rw [List.length_map]
  have h := cut_l hl t n ht later.length k 0 fr 0 [] (by omega) (by omega) hf (by simpa using hr) (by simp; omega)
  rw [Int.natCast_zero, List.drop_zero, List.map_nil] at h
  exact h

end Go.Proofs.Ytajmbafljncjcaa.PStageOver
