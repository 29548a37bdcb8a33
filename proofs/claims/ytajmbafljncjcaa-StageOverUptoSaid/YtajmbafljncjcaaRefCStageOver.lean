/- The document's answer, printed, and plain lists: cut, Over. -/
import Derived.Test.YtajmbafljncjcaaRefBStageOver
namespace Go.Proofs.Ytajmbafljncjcaa.PStageOver
open Go.RowKit Go.Proofs.YtajmbafljncjcaaW.PrintWords Go.Proofs.YtajmbafljncjcaaW.PrintLast Go.Proofs.YtajmbafljncjcaaW.PrintMore Go.Proofs.Ytajmbafljncjcaa.Stage
set_option linter.unusedVariables false
set_option linter.unusedSimpArgs false

theorem cut_l {later : List (Nat × Nat × Nat)} (hl : later.length ≤ 1114112) (t n : Nat) (ht : t ≤ 1114111) : ∀ (d k i fr low : Nat) (out : List (Nat × Nat × Nat)), i + d = later.length → 2 * d < k → fr ≤ 1114112 → RiseN low (later.drop i) → out.length + 2 * d ≤ 4194304 →
    posternref08_cut.l0 k (fr : Int) (t : Int) (n : Int) (out.map toS) (later.map toS) (later.length : Int) (i : Int) = some ((cutN (later.drop i) fr t n out).map toS) := by
  intro d
  induction d with
  | zero =>
    intro k i fr low out hi hk hf hr ho
    obtain ⟨k, rfl⟩ : ∃ m, k = m + 1 := ⟨k - 1, by omega⟩
    simp only [posternref08_cut.l0]
    rw [if_neg (show ¬ (i : Int) < (later.length : Int) by omega), List.drop_of_length_le (by omega), List.length_map]
    have c3 : out.length < 5864062014805 := by omega
    simp only [cutN]
    by_cases c : fr ≤ t
    · rw [if_pos (show (fr : Int) ≤ (t : Int) by omega), if_pos c, if_pos c3, List.map_append]
      rfl
    · rw [if_neg (show ¬ (fr : Int) ≤ (t : Int) by omega), if_neg c]
  | succ d ih =>
    intro k i fr low out hi hk hf hr ho
    obtain ⟨k, rfl⟩ : ∃ m, k = m + 2 := ⟨k - 2, by omega⟩
    have hlt : i < later.length := by omega
    have hread := rd_map later i hlt
    rw [drop_q later i hlt] at hr ⊢
    simp only [posternref08_cut.l0, posternref08_cut.j1, List.length_map]
    rw [hread]
    generalize later.getD i z3 = y at hr ⊢
    obtain ⟨r1, r2, r3, r4, r5⟩ := hr
    have h0 : (toS y).f0 = (y.1 : Int) := rfl
    have h1 : (toS y).f1 = (y.2.1 : Int) := rfl
    have h2 : (toS y).f2 = (y.2.2 : Int) := rfl
    have c1 : (i : Int) < (later.length : Int) := by omega
    have c2 : (0 : Int) ≤ (i : Int) := by omega
    have c3 : out.length < 5864062014805 := by omega
    have c4 : out.length + 1 < 5864062014805 := by omega
    have e1 := Aside0.mk (show wrap64 ((i : Int) + 1) = ((i + 1 : Nat) : Int) by rw [w64 (by omega) (by omega)]; omega)
    have e2 := Aside0.mk (show wrap64 ((t : Int) + 1) = ((t + 1 : Nat) : Int) by rw [w64 (by omega) (by omega)]; omega)
    have e3 := Aside0.mk (show wrap64 ((y.2.1 : Int) + 1) = ((y.2.1 + 1 : Nat) : Int) by rw [w64 (by omega) (by omega)]; omega)
    simp only [if_pos c1, if_pos c2, if_pos c3, List.length_append, List.length_map, List.length_singleton, if_pos c4, Option.bind_some]
    rw [h0, h1, h2, e1.out, e2.out, e3.out]
    unfold cutN
    by_cases a1 : y.2.1 < fr
    · rw [if_pos (show (y.2.1 : Int) < (fr : Int) by omega), if_pos trivial, if_pos (show y.2.1 < fr ∨ t < y.1 from .inl a1)]
      exact ih k (i + 1) fr _ out (by omega) (by omega) hf r5 (by omega)
    · rw [if_neg (show ¬ (y.2.1 : Int) < (fr : Int) by omega)]
      by_cases a2 : t < y.1
      · rw [decide_eq_true (show (y.1 : Int) > (t : Int) by omega), if_pos rfl, if_pos (show y.2.1 < fr ∨ t < y.1 from .inr a2)]
        exact ih k (i + 1) fr _ out (by omega) (by omega) hf r5 (by omega)
      · rw [decide_eq_false (show ¬ (y.1 : Int) > (t : Int) by omega), if_neg (show ¬ (false = true) by decide), if_neg (show ¬ (y.2.1 < fr ∨ t < y.1) by omega)]
        by_cases a3 : fr < y.1
        · have e4 := Aside0.mk (show wrap64 ((y.1 : Int) - 1) = ((y.1 - 1 : Nat) : Int) by rw [w64 (by omega) (by omega)]; omega)
          rw [if_pos (show (y.1 : Int) > (fr : Int) by omega), if_pos a3, e4.out]
          by_cases a4 : t < y.2.1
          · rw [if_pos (show (y.2.1 : Int) > (t : Int) by omega), show min y.2.1 t = t by omega]
            have := ih k (i + 1) (t + 1) _ (out ++ [(fr, y.1 - 1, n)] ++ [(y.1, t, y.2.2)]) (by omega) (by omega) (by omega) r5 (by simp; omega)
            rw [List.map_append, List.map_append] at this
            exact this
          · rw [if_neg (show ¬ (y.2.1 : Int) > (t : Int) by omega), show min y.2.1 t = y.2.1 by omega]
            have := ih k (i + 1) (y.2.1 + 1) _ (out ++ [(fr, y.1 - 1, n)] ++ [(y.1, y.2.1, y.2.2)]) (by omega) (by omega) (by omega) r5 (by simp; omega)
            rw [List.map_append, List.map_append] at this
            exact this
        · rw [if_neg (show ¬ (y.1 : Int) > (fr : Int) by omega), if_neg a3]
          by_cases a4 : t < y.2.1
          · rw [if_pos (show (y.2.1 : Int) > (t : Int) by omega), show min y.2.1 t = t by omega]
            have := ih k (i + 1) (t + 1) _ (out ++ [(fr, t, y.2.2)]) (by omega) (by omega) (by omega) r5 (by simp; omega)
            rw [List.map_append] at this
            exact this
          · rw [if_neg (show ¬ (y.2.1 : Int) > (t : Int) by omega), show min y.2.1 t = y.2.1 by omega]
            have := ih k (i + 1) (y.2.1 + 1) _ (out ++ [(fr, y.2.1, y.2.2)]) (by omega) (by omega) (by omega) r5 (by simp; omega)
            rw [List.map_append] at this
            exact this
theorem cut_f {later : List (Nat × Nat × Nat)} (hl : later.length ≤ 1114112) (hr : RiseN 0 later) (fr t n k : Nat) (hf : fr ≤ 1114112) (ht : t ≤ 1114111) (hk : 2 * later.length < k) :
    posternref08_cut.f k (later.map toS) (fr : Int) (t : Int) (n : Int) = some ((cutN later fr t n []).map toS) := by
  unfold posternref08_cut.f
  rw [List.length_map]
  have h := cut_l hl t n ht later.length k 0 fr 0 [] (by omega) (by omega) hf (by simpa using hr) (by simp; omega)
  rw [Int.natCast_zero, List.drop_zero, List.map_nil] at h
  exact h

theorem over_l1 {later a b : List (Nat × Nat × Nat)} {say' S : Nat → Nat} (hl : later.length ≤ 1114112) (hr : RiseN 0 later) (hal : a.length ≤ 4194304) (hbl : b.length ≤ 4194304) (x : Nat × Nat × Nat) (hx : x.1 ≤ x.2.1) (hx2 : x.2.1 < 1114112)
    (hs : ∀ p, x.1 ≤ p → p ≤ x.2.1 → S p = (sayR later p).getD x.2.2) (i : Nat) (hi : i < a.length) (k : Nat) (hk : 2 * later.length < k) :
    ∀ (d j : Nat) (out : List (Nat × Nat × Nat)) (low : Nat), j + d = b.length → Til say' 1114112 low (b.drop j) → Cov S (max x.1 (min low (x.2.1 + 1))) 0 out →
      posternref08_Over.l1 (k + (2 * d + 1)) (later.map toS) (out.map toS) (b.map toS) (a.map toS) (a.length : Int) (i : Int) (b.map toS) (b.length : Int) (j : Int) (x.1 : Int) (x.2.1 : Int) (x.2.2 : Int) =
      posternref08_Over.l0 k (later.map toS) ((overI later x (b.drop j) out).map toS) (b.map toS) (a.map toS) (a.length : Int) ((i + 1 : Nat) : Int) := by
  intro d
  induction d with
  | zero =>
    intro j out low hj ht hc
    have e1 := Aside0.mk (show wrap64 ((i : Int) + 1) = ((i + 1 : Nat) : Int) by rw [w64 (by omega) (by omega)]; omega)
    simp only [Nat.mul_zero, Nat.zero_add, posternref08_Over.l1]
    rw [if_neg (show ¬ (j : Int) < (b.length : Int) by omega), List.drop_of_length_le (by omega), e1.out]
    rfl
  | succ d ih =>
    intro j out low hj ht hc
    have hlt : j < b.length := by omega
    have hread := rd_map b j hlt
    have hclen := hc.length
    rw [drop_q b j hlt] at ht ⊢
    obtain ⟨K, hK⟩ : ∃ K, K = k + (2 * d + 1) := ⟨_, rfl⟩
    rw [show k + (2 * (d + 1) + 1) = K + 1 + 1 by omega]
    simp only [← hK] at ih
    simp only [posternref08_Over.l1, posternref08_Over.j2, List.length_map]
    rw [hread]
    generalize b.getD j z3 = y at ht ⊢
    obtain ⟨t1, t2, _, _, t5⟩ := ht
    have tle := t5.le
    have h0 : (toS y).f0 = (y.1 : Int) := rfl
    have h1 : (toS y).f1 = (y.2.1 : Int) := rfl
    have h2 : (toS y).f2 = (y.2.2 : Int) := rfl
    have c1 : (j : Int) < (b.length : Int) := by omega
    have c2 : (0 : Int) ≤ (j : Int) := by omega
    have e1 := Aside0.mk (show wrap64 ((j : Int) + 1) = ((j + 1 : Nat) : Int) by rw [w64 (by omega) (by omega)]; omega)
    simp only [if_pos c1, if_pos c2]
    rw [h0, h1, e1.out]
    simp only [overI]
    -- one inner step, whatever the ends
    have hstep : ∀ f t : Nat, f = max x.1 y.1 → t = min x.2.1 y.2.1 →
        (if (f : Int) ≤ (t : Int) then ((posternref08_cut.f K (later.map toS) (f : Int) (t : Int) (x.2.2 : Int)).bind fun t207 => (if out.length + t207.length < 5864062014805 then (posternref08_Over.l1 K (later.map toS) (out.map toS ++ t207) (b.map toS) (a.map toS) (a.length : Int) (i : Int) (b.map toS) (b.length : Int) ((j + 1 : Nat) : Int) (x.1 : Int) (x.2.1 : Int) (x.2.2 : Int)) else (none))) else (posternref08_Over.l1 K (later.map toS) (out.map toS) (b.map toS) (a.map toS) (a.length : Int) (i : Int) (b.map toS) (b.length : Int) ((j + 1 : Nat) : Int) (x.1 : Int) (x.2.1 : Int) (x.2.2 : Int))) =
        posternref08_Over.l0 k (later.map toS) ((overI later x (b.drop (j + 1)) (if max x.1 y.1 ≤ min x.2.1 y.2.1 then out ++ cutN later (max x.1 y.1) (min x.2.1 y.2.1) x.2.2 [] else out)).map toS) (b.map toS) (a.map toS) (a.length : Int) ((i + 1 : Nat) : Int) := by
      intro f t hf ht
      rw [← hf, ← ht]
      by_cases c : f ≤ t
      · have hcut := cutN_cov (S := S) (t := t) (n := x.2.2) (a := f) later [] f 0 hr (fun p ha hb => hs p (by omega) (by omega)) (by omega) (.inl c) rfl
        have hcl := hcut.length
        have hc2 : Cov S (t + 1) 0 (out ++ cutN later f t x.2.2 []) := by
          have e : max x.1 (min low (x.2.1 + 1)) = f := by omega
          rw [e] at hc
          exact Cov.append hcut hc
        rw [if_pos (show (f : Int) ≤ (t : Int) by omega), if_pos c, cut_f hl hr f t x.2.2 _ (by omega) (by omega) (by omega), Option.bind_some, List.length_map, if_pos (by omega), ← List.map_append]
        exact ih (j + 1) _ (y.2.1 + 1) (by omega) t5 (by rw [show max x.1 (min (y.2.1 + 1) (x.2.1 + 1)) = t + 1 by omega]; exact hc2)
      · rw [if_neg (show ¬ (f : Int) ≤ (t : Int) by omega), if_neg c]
        exact ih (j + 1) _ (y.2.1 + 1) (by omega) t5 (by rw [show max x.1 (min (y.2.1 + 1) (x.2.1 + 1)) = max x.1 (min low (x.2.1 + 1)) by omega]; exact hc)
    by_cases a1 : x.1 < y.1
    · rw [if_pos (show (y.1 : Int) > (x.1 : Int) by omega)]
      by_cases a2 : y.2.1 < x.2.1
      · rw [if_pos (show (y.2.1 : Int) < (x.2.1 : Int) by omega)]
        exact hstep y.1 y.2.1 (by omega) (by omega)
      · rw [if_neg (show ¬ (y.2.1 : Int) < (x.2.1 : Int) by omega)]
        exact hstep y.1 x.2.1 (by omega) (by omega)
    · rw [if_neg (show ¬ (y.1 : Int) > (x.1 : Int) by omega)]
      by_cases a2 : y.2.1 < x.2.1
      · rw [if_pos (show (y.2.1 : Int) < (x.2.1 : Int) by omega)]
        exact hstep x.1 y.2.1 (by omega) (by omega)
      · rw [if_neg (show ¬ (y.2.1 : Int) < (x.2.1 : Int) by omega)]
        exact hstep x.1 x.2.1 (by omega) (by omega)

theorem over_l0 {later a b : List (Nat × Nat × Nat)} {say say' S : Nat → Nat} (hl : later.length ≤ 1114112) (hr : RiseN 0 later) (hal : a.length ≤ 4194304) (hbl : b.length ≤ 4194304) (hb : Til say' 1114112 0 b) (hs : ∀ p, p < 1114112 → S p = (sayR later p).getD (say p)) (k : Nat) (hk : 2 * later.length < k) :
    ∀ (d i : Nat) (out : List (Nat × Nat × Nat)) (low : Nat), i + d = a.length → Til say 1114112 low (a.drop i) → Cov S low 0 out →
      posternref08_Over.l0 (k + d * (2 * b.length + 2) + 1) (later.map toS) (out.map toS) (b.map toS) (a.map toS) (a.length : Int) (i : Int) =
      (posternref08_Least.f k ((overO later b (a.drop i) out).map toS)).bind fun t => some t := by
  intro d
  induction d with
  | zero =>
    intro i out low hi ht hc
    simp only [Nat.zero_mul, Nat.add_zero, posternref08_Over.l0]
    rw [if_neg (show ¬ (i : Int) < (a.length : Int) by omega), List.drop_of_length_le (by omega)]
    rfl
  | succ d ih =>
    intro i out low hi ht hc
    have hlt : i < a.length := by omega
    have hread := rd_map a i hlt
    rw [drop_q a i hlt] at ht ⊢
    have hfuel : k + (d + 1) * (2 * b.length + 2) + 1 = (k + d * (2 * b.length + 2) + 1) + (2 * b.length + 1) + 1 := by rw [Nat.add_mul]; omega
    rw [hfuel]
    simp only [posternref08_Over.l0, List.length_map]
    rw [hread]
    generalize a.getD i z3 = x at ht ⊢
    obtain ⟨t1, t2, t3, _, t5⟩ := ht
    have tle := t5.le
    have h0 : (toS x).f0 = (x.1 : Int) := rfl
    have h1 : (toS x).f1 = (x.2.1 : Int) := rfl
    have h2 : (toS x).f2 = (x.2.2 : Int) := rfl
    have c1 : (i : Int) < (a.length : Int) := by omega
    have c2 : (0 : Int) ≤ (i : Int) := by omega
    simp only [if_pos c1, if_pos c2]
    rw [h0, h1, h2]
    have hsx : ∀ p, x.1 ≤ p → p ≤ x.2.1 → S p = (sayR later p).getD x.2.2 := fun p ha hb' => by
      rw [hs p (by omega), t3 p (by omega) hb']
    have hc0 : Cov S (max x.1 (min 0 (x.2.1 + 1))) 0 out := by rw [show max x.1 (min 0 (x.2.1 + 1)) = low by omega]; exact hc
    have hin := over_l1 (a := a) (b := b) (say' := say') (S := S) hl hr hal hbl x (by omega) (by omega) hsx i hlt (k + d * (2 * b.length + 2) + 1) (by omega) b.length 0 out 0 (by omega) (by simpa using hb) hc0
    rw [Int.natCast_zero, List.drop_zero] at hin
    rw [hin]
    exact ih (i + 1) _ (x.2.1 + 1) (by omega) t5 (overI_cov hr (by omega) (by omega) hsx b out 0 hb hc0)

theorem over_f {r later : List (Nat × Nat × Nat)} (h1 : RiseN 0 r) (h2 : RiseN 0 later) (hl1 : r.length ≤ 1114112) (hl2 : later.length ≤ 1114112) : ∃ k, posternref08_Over.f k (r.map toS) (later.map toS) = some ((bothN r later).map toS) := by
  have n1 := runsN_len r [] 0
  have n2 := runsN_len later [] 0
  simp only [List.length_nil] at n1 n2
  have hcl := (overN_cov h1 h2).length
  have hk0 := over_l0 (later := later) (a := runsN [] 0 r) (b := runsN [] 0 later) (S := overSay later (sayQ r)) hl2 h2 (by omega) (by omega) (runsN_ok h2) (fun p _ => rfl) (2 * later.length + 4000000) (by omega) (runsN [] 0 r).length 0 [] 0 (by omega) (by rw [List.drop_zero]; exact runsN_ok h1) rfl
  rw [Int.natCast_zero, List.drop_zero, List.map_nil] at hk0
  refine ⟨2 * later.length + 4000000 + (runsN [] 0 r).length * (2 * (runsN [] 0 later).length + 2) + 1, ?_⟩
  unfold posternref08_Over.f
  have hbig : 4000000 ≤ 2 * later.length + 4000000 + (runsN [] 0 r).length * (2 * (runsN [] 0 later).length + 2) + 1 := by omega
  rw [runs_fk hl1 h1 _ (by omega), Option.bind_some, runs_fk hl2 h2 _ (by omega), Option.bind_some, List.length_map, hk0]
  have hle := least_fk (q := overN r later) (by omega) (overN_rise h1 h2) (2 * later.length + 4000000) (by omega)
  show (posternref08_Least.f (2 * later.length + 4000000) ((overN r later).map toS)).bind _ = _
  rw [hle]
  rfl

end Go.Proofs.Ytajmbafljncjcaa.PStageOver
