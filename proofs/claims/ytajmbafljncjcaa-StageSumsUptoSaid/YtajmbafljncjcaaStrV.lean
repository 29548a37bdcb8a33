/- stretches of bools and of pairs of numbers, each coded as a number. -/
import Derived.Test.YtajmbafljncjcaaStE
namespace Go.Proofs.Ytajmbafljncjcaa.Stage
open Go.RowKit Go.Proofs.YtajmbafljncjcaaW.PrintWords Go.Proofs.YtajmbafljncjcaaW.PrintLast Go.Proofs.YtajmbafljncjcaaW.PrintMore Go.Proofs.Ytajmbafljncjcaa.Mp
set_option linter.unusedVariables false
set_option linter.unusedSimpArgs false

def tvB (n : Nat) : Value := .bool (decide (n = 1))
/-- The three functions that stretches is handed; things are coded by tv. -/
structure WaysV (tv : Nat → Value) (say : Nat → Nat) (ev : Nat → Bool) (St : List (Nat × Nat × Nat) → World → Prop) (Ns : FuncId) (fs cs : Array Value) (Ne : FuncId) (fe ce : Array Value) (Nd : FuncId) (fd cd : Array Value) : Prop where
  entS : ∀ (args : Array Value) (W : World), (callFunc Ns args).run Try.prog W = .ok (.enter Ns args) W
  entE : ∀ (args : Array Value) (W : World), (callFunc Ne args).run Try.prog W = .ok (.enter Ne args) W
  entD : ∀ (args : Array Value) (W : World), (callFunc Nd args).run Try.prog W = .ok (.enter Nd args) W
  even_ok : ∀ i, i < 8704 → ev i = true → ∀ j, j < 128 → say (128 * i + j) = say (128 * i)
  says : ∀ (out : List (Nat × Nat × Nat)) (W : World) (p : Nat), St out W → p < 1114112 → Calls Try.prog Ns (fs ++ #[.int .i32 (p : Int)] ++ cs) W fun e W' => e = .returned (tv (say p)) ∧ St out W'
  evens : ∀ (out : List (Nat × Nat × Nat)) (W : World) (i : Nat), St out W → i < 8704 → Calls Try.prog Ne (fe ++ #[.int .i64 (i : Int)] ++ ce) W fun e W' => e = .returned (.bool (ev i)) ∧ St out W'
  does : ∀ (out : List (Nat × Nat × Nat)) (W : World) (a b : Nat), St out W → a ≤ b → b ≤ 1114111 → Til say a 0 out → Calls Try.prog Nd (fd ++ (#[.int .i32 (a : Int), .int .i32 (b : Int), tv (say a)] ++ cd)) W fun e W' => (∃ v, e = .returned v) ∧ St (out ++ [(a, b, say a)]) W'

set_option maxRecDepth 100000 in
set_option maxHeartbeats 1600000 in
theorem stretchesB_calls {say : Nat → Nat} {ev : Nat → Bool} {St : List (Nat × Nat × Nat) → World → Prop} {Ns : FuncId} {fs cs : Array Value} {Ne : FuncId} {fe ce : Array Value} {Nd : FuncId} {fd cd : Array Value} (hbd : ∀ p, p < 1114112 → say p ≤ 1) (Y : WaysV tvB say ev St Ns fs cs Ne fe ce Nd fd cd) (w : World) (h0 : St [] w) :
    Calls Try.prog 84 #[.func (.func Ns) fs cs, .func (.func Ne) fe ce, .func (.func Nd) fd cd] w (StretchPost say St) := by
  have HY := Aside0.mk Y
  have HBD := Aside0.mk hbd
  have entS := Y.entS
  have entE := Y.entE
  have entD := Y.entD
  have HS0 := Aside0.mk (Y.says [] w 0 h0 (by omega))
  clear Y h0 hbd
  go_enter Try.func84, Try.ntmps84
  go_wp2_with fail
  refine HS0.out.mono ?_
  rintro e w1 ⟨rfl, hS⟩
  have HS := Aside0.mk hS
  clear hS HS0
  have HP := Aside0.mk (show Part say [] 0 0 from ⟨rfl, (fun z hz => by cases hz), Nat.le_refl _, by omega, fun p ha hb => by omega⟩)
  go_wp2
  go_loopg [6, 7, 15] 8704 (fun q v6 v7 v15 wr => ∃ (fr i : Nat) (out : List (Nat × Nat × Nat)), i ≤ 8704 ∧ 8704 - i ≤ q ∧ v6 = .int .i32 (fr : Int) ∧ v7 = tvB (say fr) ∧ v15 = .int .i64 (i : Int) ∧ Aside0 (Part say out fr (128 * i)) ∧ Aside0 (St out wr))
  case atStart => exact ⟨0, 0, [], by omega, by omega, rfl, rfl, rfl, HP, HS⟩
  case round =>
    obtain ⟨fr, i, out, hi, hq, rfl, rfl, rfl, hP, hS⟩ := hrel
    clear HP HS
    obtain ⟨gko, rfl⟩ : ∃ n, n = gk := ⟨_, rfl⟩
    by_cases hlt : i < 8704
    · have hlt' : (i : Int) < 8704 := by omega
      go_wp2_with fail
      refine (HY.out.evens out wr i hS.out hlt).mono ?_
      rintro e w2 ⟨rfl, hS2⟩
      have HS2 := Aside0.mk hS2
      clear hS hS2
      cases hev : ev i with
      | false =>
        go_wp2
        go_loopg [6, 7, 22] 128 (fun q v6 v7 v22 wr => ∃ (fr2 k : Nat) (out2 : List (Nat × Nat × Nat)), k ≤ 128 ∧ 128 - k ≤ q ∧ v6 = .int .i32 (fr2 : Int) ∧ v7 = tvB (say fr2) ∧ v22 = .int .i64 (k : Int) ∧ Aside0 (Part say out2 fr2 (128 * i + k)) ∧ Aside0 (St out2 wr))
        case atStart => exact ⟨fr, 0, out, by omega, by omega, rfl, rfl, rfl, hP, HS2⟩
        case round =>
          obtain ⟨fr2, k, out2, hk, hq2, rfl, rfl, rfl, hP2, hS2⟩ := hrel
          clear hP HS2
          by_cases hkl : k < 128
          · have hkl' : (k : Int) < 128 := by omega
            have hp : 128 * i + k < 1114112 := by omega
            have hw : IntKind.i32.wrap ((i : Int) * 128 + (k : Int)) = ((128 * i + k : Nat) : Int) := by rw [IntWalk.i32_in _ (by omega)]; omega
            have hsy := HY.out.says out2 wr (128 * i + k) hS2.out hp
            generalize hpe : 128 * i + k = p at hw hsy hp
            go_wp2_with fail
            refine hsy.mono ?_
            rintro e w3 ⟨rfl, hS3⟩
            by_cases hy : say p = say fr2
            · have HP3 := Aside0.mk (show Part say out2 fr2 (128 * i + (k + 1)) from by rw [← Nat.add_assoc]; exact hP2.out.go (by rw [hpe]; exact hy))
              have HS3 := Aside0.mk hS3
              rw [hy]
              have hv : tvB (say fr2) = .bool true ∨ tvB (say fr2) = .bool false := by
                unfold tvB
                cases decide (say fr2 = 1) with
                | true => exact .inl rfl
                | false => exact .inr rfl
              generalize hvf : tvB (say fr2) = vf at hv ⊢
              have HVF := Aside0.mk hvf
              clear hy hsy hS3 hP2 hS2 hvf
              rcases hv with rfl | rfl
              all_goals
               go_wp2
               go_roundg (gk - 1)
               case measure => omega
               case rel => exact ⟨fr2, k + 1, out2, by omega, by omega, rfl, HVF.out.symm, by go_num, HP3, HS3⟩
            · obtain ⟨h1, hT⟩ := hP2.out.turn (by rw [hpe]; exact hy) (by rw [hpe]; exact hp)
              rw [hpe] at h1 hT
              have HP3 := Aside0.mk (show Part say (out2 ++ [(fr2, p - 1, say fr2)]) p (128 * i + (k + 1)) from by rw [← Nat.add_assoc, hpe]; exact hT)
              have hw1 : IntKind.i32.wrap ((p : Int) - 1) = ((p - 1 : Nat) : Int) := by rw [IntWalk.i32_in _ (by omega)]; omega
              have hdo := HY.out.does out2 w3 fr2 (p - 1) hS3 (by omega) (by omega) hP2.out.til
              have hne : say p ≠ say fr2 := hy
              have hv : (tvB (say p) = .bool true ∧ tvB (say fr2) = .bool false) ∨ (tvB (say p) = .bool false ∧ tvB (say fr2) = .bool true) := by
                have b1 := HBD.out p hp
                have b2 := HBD.out fr2 (by omega)
                have : (say p = 1 ∧ say fr2 = 0) ∨ (say p = 0 ∧ say fr2 = 1) := by omega
                rcases this with ⟨e1, e2⟩ | ⟨e1, e2⟩
                · exact .inl ⟨by rw [e1]; rfl, by rw [e2]; rfl⟩
                · exact .inr ⟨by rw [e1]; rfl, by rw [e2]; rfl⟩
              clear hsy hS3 hP2 hS2 hT
              generalize hvp : tvB (say p) = vp at hdo hv ⊢
              generalize hvf : tvB (say fr2) = vf at hdo hv ⊢
              have HVP := Aside0.mk hvp
              have HVF := Aside0.mk hvf
              clear hvp hvf
              rcases hv with ⟨rfl, rfl⟩ | ⟨rfl, rfl⟩
              all_goals
               go_wp2_with fail
               refine hdo.mono ?_
               rintro e w4 ⟨⟨v4, rfl⟩, hS4⟩
               have HS4 := Aside0.mk hS4
               clear hdo hS4
               go_wp2
               go_roundg (gk - 1)
               case measure => omega
               case rel => exact ⟨p, k + 1, out2 ++ [(fr2, p - 1, say fr2)], by omega, by omega, rfl, HVP.out.symm, by go_num, HP3, HS4⟩
          · have hkl' : ¬ (k : Int) < 128 := by omega
            have HP3 := Aside0.mk (show Part say out2 fr2 (128 * (i + 1)) from by rw [show 128 * (i + 1) = 128 * i + k by omega]; exact hP2.out)
            clear hP2
            go_wp2
            go_roundg (gko - 1)
            case measure => omega
            case rel => exact ⟨fr2, i + 1, out2, by omega, by omega, rfl, rfl, by go_num, HP3, hS2⟩
      | true =>
        go_wp2
        go_loopg [6, 7, 22] 1 (fun q v6 v7 v22 wr => ∃ (fr2 k : Nat) (out2 : List (Nat × Nat × Nat)), k ≤ 1 ∧ 1 - k ≤ q ∧ v6 = .int .i32 (fr2 : Int) ∧ v7 = tvB (say fr2) ∧ v22 = .int .i64 (k : Int) ∧ Aside0 (Part say out2 fr2 (128 * i + k)) ∧ Aside0 (St out2 wr))
        case atStart => exact ⟨fr, 0, out, by omega, by omega, rfl, rfl, rfl, hP, HS2⟩
        case round =>
          obtain ⟨fr2, k, out2, hk, hq2, rfl, rfl, rfl, hP2, hS2⟩ := hrel
          clear hP HS2
          by_cases hkl : k < 1
          · have hkl' : (k : Int) < 1 := by omega
            have hp : 128 * i + k < 1114112 := by omega
            have hw : IntKind.i32.wrap ((i : Int) * 128 + (k : Int)) = ((128 * i + k : Nat) : Int) := by rw [IntWalk.i32_in _ (by omega)]; omega
            have hsy := HY.out.says out2 wr (128 * i + k) hS2.out hp
            generalize hpe : 128 * i + k = p at hw hsy hp
            go_wp2_with fail
            refine hsy.mono ?_
            rintro e w3 ⟨rfl, hS3⟩
            by_cases hy : say p = say fr2
            · have HP3 := Aside0.mk (show Part say out2 fr2 (128 * i + (k + 1)) from by rw [← Nat.add_assoc]; exact hP2.out.go (by rw [hpe]; exact hy))
              have HS3 := Aside0.mk hS3
              rw [hy]
              have hv : tvB (say fr2) = .bool true ∨ tvB (say fr2) = .bool false := by
                unfold tvB
                cases decide (say fr2 = 1) with
                | true => exact .inl rfl
                | false => exact .inr rfl
              generalize hvf : tvB (say fr2) = vf at hv ⊢
              have HVF := Aside0.mk hvf
              clear hy hsy hS3 hP2 hS2 hvf
              rcases hv with rfl | rfl
              all_goals
               go_wp2
               go_roundg (gk - 1)
               case measure => omega
               case rel => exact ⟨fr2, k + 1, out2, by omega, by omega, rfl, HVF.out.symm, by go_num, HP3, HS3⟩
            · obtain ⟨h1, hT⟩ := hP2.out.turn (by rw [hpe]; exact hy) (by rw [hpe]; exact hp)
              rw [hpe] at h1 hT
              have HP3 := Aside0.mk (show Part say (out2 ++ [(fr2, p - 1, say fr2)]) p (128 * i + (k + 1)) from by rw [← Nat.add_assoc, hpe]; exact hT)
              have hw1 : IntKind.i32.wrap ((p : Int) - 1) = ((p - 1 : Nat) : Int) := by rw [IntWalk.i32_in _ (by omega)]; omega
              have hdo := HY.out.does out2 w3 fr2 (p - 1) hS3 (by omega) (by omega) hP2.out.til
              have hne : say p ≠ say fr2 := hy
              have hv : (tvB (say p) = .bool true ∧ tvB (say fr2) = .bool false) ∨ (tvB (say p) = .bool false ∧ tvB (say fr2) = .bool true) := by
                have b1 := HBD.out p hp
                have b2 := HBD.out fr2 (by omega)
                have : (say p = 1 ∧ say fr2 = 0) ∨ (say p = 0 ∧ say fr2 = 1) := by omega
                rcases this with ⟨e1, e2⟩ | ⟨e1, e2⟩
                · exact .inl ⟨by rw [e1]; rfl, by rw [e2]; rfl⟩
                · exact .inr ⟨by rw [e1]; rfl, by rw [e2]; rfl⟩
              clear hsy hS3 hP2 hS2 hT
              generalize hvp : tvB (say p) = vp at hdo hv ⊢
              generalize hvf : tvB (say fr2) = vf at hdo hv ⊢
              have HVP := Aside0.mk hvp
              have HVF := Aside0.mk hvf
              clear hvp hvf
              rcases hv with ⟨rfl, rfl⟩ | ⟨rfl, rfl⟩
              all_goals
               go_wp2_with fail
               refine hdo.mono ?_
               rintro e w4 ⟨⟨v4, rfl⟩, hS4⟩
               have HS4 := Aside0.mk hS4
               clear hdo hS4
               go_wp2
               go_roundg (gk - 1)
               case measure => omega
               case rel => exact ⟨p, k + 1, out2 ++ [(fr2, p - 1, say fr2)], by omega, by omega, rfl, HVP.out.symm, by go_num, HP3, HS4⟩
          · have hkl' : ¬ (k : Int) < 1 := by omega
            have HP3 := Aside0.mk (show Part say out2 fr2 (128 * (i + 1)) from Part.wide (by rw [show 128 * i + 1 = 128 * i + k by omega]; exact hP2.out) (HY.out.even_ok i hlt hev))
            clear hP2
            go_wp2
            go_roundg (gko - 1)
            case measure => omega
            case rel => exact ⟨fr2, i + 1, out2, by omega, by omega, rfl, rfl, by go_num, HP3, hS2⟩
    · have hlt' : ¬ (i : Int) < 8704 := by omega
      have e8 : 128 * i = 1114112 := by omega
      have hP9 := hP.out
      rw [e8] at hP9
      have hdo := HY.out.does out wr fr 1114111 hS.out (by have := hP9.lt; omega) (by omega) hP9.til
      have HP9 := Aside0.mk hP9.fin
      clear hP hP9 hS
      go_wp2_with fail
      refine hdo.mono ?_
      rintro e w4 ⟨⟨v4, rfl⟩, hS4⟩
      have HF := Aside0.mk (show ∀ v, StretchPost say St (.returned v) w4 from fun v => ⟨⟨v, rfl⟩, _, HP9.out, hS4⟩)
      clear hdo hS4
      go_wp2
      go_returns
      exact HF.out _


end Go.Proofs.Ytajmbafljncjcaa.Stage
