/- stretches of bools and of pairs of numbers, each coded as a number. stretches of pairs of numbers, each coded as a number. stage.both: what two tables are told together by. -/
import Derived.Test.YtajmbafljncjcaaStE
import Derived.BigQuiet
/-! ### StrV: stretches of bools and of pairs of numbers, each coded as a number. -/
namespace Go.Proofs.Ytajmbafljncjcaa.Stage
open Go.RowKit Go.Proofs.YtajmbafljncjcaaW.PrintWords Go.Proofs.YtajmbafljncjcaaW.PrintLast Go.Proofs.YtajmbafljncjcaaW.PrintMore Go.Proofs.Ytajmbafljncjcaa.Mp
set_option linter.unusedVariables false
set_option linter.unusedSimpArgs false

def tvB (n : Nat) : Value := .bool (decide (n = 1))
/-- The three functions that stretches is handed; things are coded by tv. -/
structure WaysV (tv : Nat → Value) (say : Nat → Nat) (ev : Nat → Bool) (St : List (Nat × Nat × Nat) → World → Prop) (Ns : FuncId) (fs cs : Array Value) (Ne : FuncId) (fe ce : Array Value) (Nd : FuncId) (fd cd : Array Value) : Prop where
  entS : ∀ (args : Array Value) (W : World), (callFunc Ns args).run Try.prog W = .ok (.enter Ns args) W
  entE : ∀ (args : Array Value) (W : World), (callFunc Ne args).run Try.prog W = .ok (.enter Ne args) W
  entD : ∀ (args : Array Value) (W : World), (callFunc Nd args).run Try.prog W = .ok (.enter Nd args) W
  even_ok : ∀ i, i < 8704 → ev i = true → ∀ j, j < 128 → say (128 * i + j) = say (128 * i)
  says : ∀ (out : List (Nat × Nat × Nat)) (W : World) (p : Nat), St out W → p < 1114112 → Calls Try.prog Ns (fs ++ #[.int .i32 (p : Int)] ++ cs) W fun e W' => e = .returned (tv (say p)) ∧ St out W'
  evens : ∀ (out : List (Nat × Nat × Nat)) (W : World) (i : Nat), St out W → i < 8704 → Calls Try.prog Ne (fe ++ #[.int .i64 (i : Int)] ++ ce) W fun e W' => e = .returned (.bool (ev i)) ∧ St out W'
  does : ∀ (out : List (Nat × Nat × Nat)) (W : World) (a b : Nat), St out W → a ≤ b → b ≤ 1114111 → Til say a 0 out → Calls Try.prog Nd (fd ++ (#[.int .i32 (a : Int), .int .i32 (b : Int), tv (say a)] ++ cd)) W fun e W' => (∃ v, e = .returned v) ∧ St (out ++ [(a, b, say a)]) W'

set_option maxRecDepth 100000 in
set_option maxHeartbeats 1600000 in
theorem stretchesB_calls {say : Nat → Nat} {ev : Nat → Bool} {St : List (Nat × Nat × Nat) → World → Prop} {Ns : FuncId} {fs cs : Array Value} {Ne : FuncId} {fe ce : Array Value} {Nd : FuncId} {fd cd : Array Value} (hbd : ∀ p, p < 1114112 → say p ≤ 1) (Y : WaysV tvB say ev St Ns fs cs Ne fe ce Nd fd cd) (w : World) (h0 : St [] w) :
    Calls Try.prog 84 #[.func (.func Ns) fs cs, .func (.func Ne) fe ce, .func (.func Nd) fd cd] w (StretchPost say St) := by
  have HY := Aside0.mk Y
  have HBD := Aside0.mk hbd
  have entS := Y.entS
  have entE := Y.entE
  have entD := Y.entD
  have HS0 := Aside0.mk (Y.says [] w 0 h0 (by omega))
  clear Y h0 hbd
  go_enter Try.func84, Try.ntmps84
  go_wp2_with fail
  refine HS0.out.mono ?_
  rintro e w1 ⟨rfl, hS⟩
  have HS := Aside0.mk hS
  clear hS HS0
  have HP := Aside0.mk (show Part say [] 0 0 from ⟨rfl, (fun z hz => by cases hz), Nat.le_refl _, by omega, fun p ha hb => by omega⟩)
  go_wp2
  go_loopg [6, 7, 15] 8704 (fun q v6 v7 v15 wr => ∃ (fr i : Nat) (out : List (Nat × Nat × Nat)), i ≤ 8704 ∧ 8704 - i ≤ q ∧ v6 = .int .i32 (fr : Int) ∧ v7 = tvB (say fr) ∧ v15 = .int .i64 (i : Int) ∧ Aside0 (Part say out fr (128 * i)) ∧ Aside0 (St out wr))
  case atStart => exact ⟨0, 0, [], by omega, by omega, rfl, rfl, rfl, HP, HS⟩
  case round =>
    obtain ⟨fr, i, out, hi, hq, rfl, rfl, rfl, hP, hS⟩ := hrel
    clear HP HS
    obtain ⟨gko, rfl⟩ : ∃ n, n = gk := ⟨_, rfl⟩
    by_cases hlt : i < 8704
    · have hlt' : (i : Int) < 8704 := by omega
      go_wp2_with fail
      refine (HY.out.evens out wr i hS.out hlt).mono ?_
      rintro e w2 ⟨rfl, hS2⟩
      have HS2 := Aside0.mk hS2
      clear hS hS2
      cases hev : ev i with
      | false =>
        go_wp2
        go_loopg [6, 7, 22] 128 (fun q v6 v7 v22 wr => ∃ (fr2 k : Nat) (out2 : List (Nat × Nat × Nat)), k ≤ 128 ∧ 128 - k ≤ q ∧ v6 = .int .i32 (fr2 : Int) ∧ v7 = tvB (say fr2) ∧ v22 = .int .i64 (k : Int) ∧ Aside0 (Part say out2 fr2 (128 * i + k)) ∧ Aside0 (St out2 wr))
        case atStart => exact ⟨fr, 0, out, by omega, by omega, rfl, rfl, rfl, hP, HS2⟩
        case round =>
          obtain ⟨fr2, k, out2, hk, hq2, rfl, rfl, rfl, hP2, hS2⟩ := hrel
          clear hP HS2
          by_cases hkl : k < 128
          · have hkl' : (k : Int) < 128 := by omega
            have hp : 128 * i + k < 1114112 := by omega
            have hw : IntKind.i32.wrap ((i : Int) * 128 + (k : Int)) = ((128 * i + k : Nat) : Int) := by rw [IntWalk.i32_in _ (by omega)]; omega
            have hsy := HY.out.says out2 wr (128 * i + k) hS2.out hp
            generalize hpe : 128 * i + k = p at hw hsy hp
            go_wp2_with fail
            refine hsy.mono ?_
            rintro e w3 ⟨rfl, hS3⟩
            by_cases hy : say p = say fr2
            · have HP3 := Aside0.mk (show Part say out2 fr2 (128 * i + (k + 1)) from by rw [← Nat.add_assoc]; exact hP2.out.go (by rw [hpe]; exact hy))
              have HS3 := Aside0.mk hS3
              rw [hy]
              have hv : tvB (say fr2) = .bool true ∨ tvB (say fr2) = .bool false := by
                unfold tvB
                cases decide (say fr2 = 1) with
                | true => exact .inl rfl
                | false => exact .inr rfl
              generalize hvf : tvB (say fr2) = vf at hv ⊢
              have HVF := Aside0.mk hvf
              clear hy hsy hS3 hP2 hS2 hvf
              rcases hv with rfl | rfl
              all_goals
               go_wp2
               go_roundg (gk - 1)
               case measure => omega
               case rel => exact ⟨fr2, k + 1, out2, by omega, by omega, rfl, HVF.out.symm, by go_num, HP3, HS3⟩
            · obtain ⟨h1, hT⟩ := hP2.out.turn (by rw [hpe]; exact hy) (by rw [hpe]; exact hp)
              rw [hpe] at h1 hT
              have HP3 := Aside0.mk (show Part say (out2 ++ [(fr2, p - 1, say fr2)]) p (128 * i + (k + 1)) from by rw [← Nat.add_assoc, hpe]; exact hT)
              have hw1 : IntKind.i32.wrap ((p : Int) - 1) = ((p - 1 : Nat) : Int) := by rw [IntWalk.i32_in _ (by omega)]; omega
              have hdo := HY.out.does out2 w3 fr2 (p - 1) hS3 (by omega) (by omega) hP2.out.til
              have hne : say p ≠ say fr2 := hy
              have hv : (tvB (say p) = .bool true ∧ tvB (say fr2) = .bool false) ∨ (tvB (say p) = .bool false ∧ tvB (say fr2) = .bool true) := by
                have b1 := HBD.out p hp
                have b2 := HBD.out fr2 (by omega)
                have : (say p = 1 ∧ say fr2 = 0) ∨ (say p = 0 ∧ say fr2 = 1) := by omega
                rcases this with ⟨e1, e2⟩ | ⟨e1, e2⟩
                · exact .inl ⟨by rw [e1]; rfl, by rw [e2]; rfl⟩
                · exact .inr ⟨by rw [e1]; rfl, by rw [e2]; rfl⟩
              clear hsy hS3 hP2 hS2 hT
              generalize hvp : tvB (say p) = vp at hdo hv ⊢
              generalize hvf : tvB (say fr2) = vf at hdo hv ⊢
              have HVP := Aside0.mk hvp
              have HVF := Aside0.mk hvf
              clear hvp hvf
              rcases hv with ⟨rfl, rfl⟩ | ⟨rfl, rfl⟩
              all_goals
               go_wp2_with fail
               refine hdo.mono ?_
               rintro e w4 ⟨⟨v4, rfl⟩, hS4⟩
               have HS4 := Aside0.mk hS4
               clear hdo hS4
               go_wp2
               go_roundg (gk - 1)
               case measure => omega
               case rel => exact ⟨p, k + 1, out2 ++ [(fr2, p - 1, say fr2)], by omega, by omega, rfl, HVP.out.symm, by go_num, HP3, HS4⟩
          · have hkl' : ¬ (k : Int) < 128 := by omega
            have HP3 := Aside0.mk (show Part say out2 fr2 (128 * (i + 1)) from by rw [show 128 * (i + 1) = 128 * i + k by omega]; exact hP2.out)
            clear hP2
            go_wp2
            go_roundg (gko - 1)
            case measure => omega
            case rel => exact ⟨fr2, i + 1, out2, by omega, by omega, rfl, rfl, by go_num, HP3, hS2⟩
      | true =>
        go_wp2
        go_loopg [6, 7, 22] 1 (fun q v6 v7 v22 wr => ∃ (fr2 k : Nat) (out2 : List (Nat × Nat × Nat)), k ≤ 1 ∧ 1 - k ≤ q ∧ v6 = .int .i32 (fr2 : Int) ∧ v7 = tvB (say fr2) ∧ v22 = .int .i64 (k : Int) ∧ Aside0 (Part say out2 fr2 (128 * i + k)) ∧ Aside0 (St out2 wr))
        case atStart => exact ⟨fr, 0, out, by omega, by omega, rfl, rfl, rfl, hP, HS2⟩
        case round =>
          obtain ⟨fr2, k, out2, hk, hq2, rfl, rfl, rfl, hP2, hS2⟩ := hrel
          clear hP HS2
          by_cases hkl : k < 1
          · have hkl' : (k : Int) < 1 := by omega
            have hp : 128 * i + k < 1114112 := by omega
            have hw : IntKind.i32.wrap ((i : Int) * 128 + (k : Int)) = ((128 * i + k : Nat) : Int) := by rw [IntWalk.i32_in _ (by omega)]; omega
            have hsy := HY.out.says out2 wr (128 * i + k) hS2.out hp
            generalize hpe : 128 * i + k = p at hw hsy hp
            go_wp2_with fail
            refine hsy.mono ?_
            rintro e w3 ⟨rfl, hS3⟩
            by_cases hy : say p = say fr2
            · have HP3 := Aside0.mk (show Part say out2 fr2 (128 * i + (k + 1)) from by rw [← Nat.add_assoc]; exact hP2.out.go (by rw [hpe]; exact hy))
              have HS3 := Aside0.mk hS3
              rw [hy]
              have hv : tvB (say fr2) = .bool true ∨ tvB (say fr2) = .bool false := by
                unfold tvB
                cases decide (say fr2 = 1) with
                | true => exact .inl rfl
                | false => exact .inr rfl
              generalize hvf : tvB (say fr2) = vf at hv ⊢
              have HVF := Aside0.mk hvf
              clear hy hsy hS3 hP2 hS2 hvf
              rcases hv with rfl | rfl
              all_goals
               go_wp2
               go_roundg (gk - 1)
               case measure => omega
               case rel => exact ⟨fr2, k + 1, out2, by omega, by omega, rfl, HVF.out.symm, by go_num, HP3, HS3⟩
            · obtain ⟨h1, hT⟩ := hP2.out.turn (by rw [hpe]; exact hy) (by rw [hpe]; exact hp)
              rw [hpe] at h1 hT
              have HP3 := Aside0.mk (show Part say (out2 ++ [(fr2, p - 1, say fr2)]) p (128 * i + (k + 1)) from by rw [← Nat.add_assoc, hpe]; exact hT)
              have hw1 : IntKind.i32.wrap ((p : Int) - 1) = ((p - 1 : Nat) : Int) := by rw [IntWalk.i32_in _ (by omega)]; omega
              have hdo := HY.out.does out2 w3 fr2 (p - 1) hS3 (by omega) (by omega) hP2.out.til
              have hne : say p ≠ say fr2 := hy
              have hv : (tvB (say p) = .bool true ∧ tvB (say fr2) = .bool false) ∨ (tvB (say p) = .bool false ∧ tvB (say fr2) = .bool true) := by
                have b1 := HBD.out p hp
                have b2 := HBD.out fr2 (by omega)
                have : (say p = 1 ∧ say fr2 = 0) ∨ (say p = 0 ∧ say fr2 = 1) := by omega
                rcases this with ⟨e1, e2⟩ | ⟨e1, e2⟩
                · exact .inl ⟨by rw [e1]; rfl, by rw [e2]; rfl⟩
                · exact .inr ⟨by rw [e1]; rfl, by rw [e2]; rfl⟩
              clear hsy hS3 hP2 hS2 hT
              generalize hvp : tvB (say p) = vp at hdo hv ⊢
              generalize hvf : tvB (say fr2) = vf at hdo hv ⊢
              have HVP := Aside0.mk hvp
              have HVF := Aside0.mk hvf
              clear hvp hvf
              rcases hv with ⟨rfl, rfl⟩ | ⟨rfl, rfl⟩
              all_goals
               go_wp2_with fail
               refine hdo.mono ?_
               rintro e w4 ⟨⟨v4, rfl⟩, hS4⟩
               have HS4 := Aside0.mk hS4
               clear hdo hS4
               go_wp2
               go_roundg (gk - 1)
               case measure => omega
               case rel => exact ⟨p, k + 1, out2 ++ [(fr2, p - 1, say fr2)], by omega, by omega, rfl, HVP.out.symm, by go_num, HP3, HS4⟩
          · have hkl' : ¬ (k : Int) < 1 := by omega
            have HP3 := Aside0.mk (show Part say out2 fr2 (128 * (i + 1)) from Part.wide (by rw [show 128 * i + 1 = 128 * i + k by omega]; exact hP2.out) (HY.out.even_ok i hlt hev))
            clear hP2
            go_wp2
            go_roundg (gko - 1)
            case measure => omega
            case rel => exact ⟨fr2, i + 1, out2, by omega, by omega, rfl, rfl, by go_num, HP3, hS2⟩
    · have hlt' : ¬ (i : Int) < 8704 := by omega
      have e8 : 128 * i = 1114112 := by omega
      have hP9 := hP.out
      rw [e8] at hP9
      have hdo := HY.out.does out wr fr 1114111 hS.out (by have := hP9.lt; omega) (by omega) hP9.til
      have HP9 := Aside0.mk hP9.fin
      clear hP hP9 hS
      go_wp2_with fail
      refine hdo.mono ?_
      rintro e w4 ⟨⟨v4, rfl⟩, hS4⟩
      have HF := Aside0.mk (show ∀ v, StretchPost say St (.returned v) w4 from fun v => ⟨⟨v, rfl⟩, _, HP9.out, hS4⟩)
      clear hdo hS4
      go_wp2
      go_returns
      exact HF.out _


end Go.Proofs.Ytajmbafljncjcaa.Stage

/-! ### StrP: stretches of pairs of numbers, each coded as a number. -/
namespace Go.Proofs.Ytajmbafljncjcaa.Stage
open Go.RowKit Go.Proofs.YtajmbafljncjcaaW.PrintWords Go.Proofs.YtajmbafljncjcaaW.PrintLast Go.Proofs.YtajmbafljncjcaaW.PrintMore Go.Proofs.Ytajmbafljncjcaa.Mp
set_option linter.unusedVariables false
set_option linter.unusedSimpArgs false

def hiZ (n : Nat) : Int := ((n / 65536 : Nat) : Int)
def loZ (n : Nat) : Int := ((n % 65536 : Nat) : Int)
def prC (n : Nat) : List Value := [.int .i64 (hiZ n), .int .i64 (loZ n)]
def prL (n : Nat) : List Nat := [n / 65536, n % 65536]
theorem prL_inj {n m : Nat} (h : prL n = prL m) : n = m := by
  unfold prL at h
  simp only [List.cons.injEq, and_true] at h
  obtain ⟨h1, h2⟩ := h
  omega
theorem prL_iff (n m : Nat) : decide (prL n = prL m) = decide (n = m) := by
  by_cases h : n = m
  · rw [h]; simp
  · rw [decide_eq_false h, decide_eq_false (fun e => h (prL_inj e))]
section
variable {P : Program} {ops : Array Oper} {rest : List Oper} {o : Oper} {a : Act} {Q : Exit → Act → World → Prop} {W : World}
theorem size_int : (Try.prog.info? 3).map (·.size) = some 1 := by kernel_rfl
theorem ne_pair (hgd : o.guard = none) (x y : Operand) (ho : o.op = .binOp .neq 126 x y 126) (n m : Nat) (r : Bool) (hr : (!(decide (n = m))) = r) (hx : a.eval x = .agg #[.int .i64 (hiZ n), .int .i64 (loZ n)]) (hy : a.eval y = .agg #[.int .i64 (hiZ m), .int .i64 (loZ m)])
    (h : wpList Try.prog ops Q rest (a.put o.dst (.bool r)) W) : wpList Try.prog ops Q (o :: rest) a W := by
  refine Kd.event_run hgd ?_ h
  obtain ⟨d, op, ty, pos, af, g⟩ := o
  cases ho
  unfold execOp
  have hx' : a.eval x = .agg (natCells .i64 (prL n)).toArray := hx
  have hy' : a.eval y = .agg (natCells .i64 (prL m)).toArray := hy
  have hg := run_eqGuard_agg (P := Try.prog) (w := W) .neq 126 x y (natCells .i64 (prL n)).toArray (natCells .i64 (prL m)).toArray (by kernel_rfl)
  have hq := run_equalIn_nats (P := Try.prog) 9998 126 3 2 .i64 Try.underlying126 Try.underlying3 (sizeOf_run size_int) W (prL n) (prL m) rfl rfl
  rw [prL_iff] at hq
  simp only [hx', hy', Sem.run_bind, hg, run_neq_struct, Result.andThen_ok, hq, Sem.run_pure, hr]
end
/-- What holds pairs stays. -/
def PairKept (W W' : World) : Prop := ∀ (k : Nat) (cs : List Value), Blk W k cs 126 → Blk W' k cs 126
/-- The three functions that stretches of pairs is handed; the pairs that stretches keeps in blocks are no part of what they write. -/
structure WaysP (B0 : Nat) (say : Nat → Nat) (ev : Nat → Bool) (St : List (Nat × Nat × Nat) → World → Prop) (Ns : FuncId) (fs cs : Array Value) (Ne : FuncId) (fe ce : Array Value) (Nd : FuncId) (fd cd : Array Value) : Prop where
  entS : ∀ (args : Array Value) (W : World), (callFunc Ns args).run Try.prog W = .ok (.enter Ns args) W
  entE : ∀ (args : Array Value) (W : World), (callFunc Ne args).run Try.prog W = .ok (.enter Ne args) W
  entD : ∀ (args : Array Value) (W : World), (callFunc Nd args).run Try.prog W = .ok (.enter Nd args) W
  even_ok : ∀ i, i < 8704 → ev i = true → ∀ j, j < 128 → say (128 * i + j) = say (128 * i)
  size : ∀ (out : List (Nat × Nat × Nat)) (W : World), St out W → B0 ≤ W.heap.size
  alloc : ∀ (out : List (Nat × Nat × Nat)) (W : World) (o : Obj), St out W → St out (W.alloc o)
  drew : ∀ (out : List (Nat × Nat × Nat)) (W : World), St out W → St out W.drew
  setP : ∀ (out : List (Nat × Nat × Nat)) (W : World) (k : Nat) (cs : List Value) (i : Nat) (v : Value), St out W → B0 ≤ k → Blk W k cs 126 → St out (W.setCell ⟨k, i, none⟩ v)
  says : ∀ (out : List (Nat × Nat × Nat)) (W : World) (p : Nat), St out W → p < 1114112 → Calls Try.prog Ns (fs ++ #[.int .i32 (p : Int)] ++ cs) W fun e W' => e = .returned (.agg #[.int .i64 (hiZ (say p)), .int .i64 (loZ (say p))]) ∧ St out W' ∧ PairKept W W'
  evens : ∀ (out : List (Nat × Nat × Nat)) (W : World) (i : Nat), St out W → i < 8704 → Calls Try.prog Ne (fe ++ #[.int .i64 (i : Int)] ++ ce) W fun e W' => e = .returned (.bool (ev i)) ∧ St out W' ∧ PairKept W W'
  does : ∀ (out : List (Nat × Nat × Nat)) (W : World) (a b : Nat), St out W → a ≤ b → b ≤ 1114111 → Til say a 0 out → Calls Try.prog Nd (fd ++ (#[.int .i32 (a : Int), .int .i32 (b : Int), .agg #[.int .i64 (hiZ (say a)), .int .i64 (loZ (say a))]] ++ cd)) W fun e W' => (∃ v, e = .returned v) ∧ St (out ++ [(a, b, say a)]) W' ∧ PairKept W W'

set_option maxRecDepth 100000 in
set_option maxHeartbeats 1600000 in
theorem stretchesP_calls {B0 : Nat} {say : Nat → Nat} {ev : Nat → Bool} {St : List (Nat × Nat × Nat) → World → Prop} {Ns : FuncId} {fs cs : Array Value} {Ne : FuncId} {fe ce : Array Value} {Nd : FuncId} {fd cd : Array Value} (Y : WaysP B0 say ev St Ns fs cs Ne fe ce Nd fd cd) (w : World) (h0 : St [] w) :
    Calls Try.prog 101 #[.func (.func Ns) fs cs, .func (.func Ne) fe ce, .func (.func Nd) fd cd] w (StretchPost say St) := by
  have HY := Aside0.mk Y
  have entS := Y.entS
  have entE := Y.entE
  have entD := Y.entD
  have HS0 := Aside0.mk (Y.says [] w 0 h0 (by omega))
  clear Y h0
  go_enter Try.func101, Try.ntmps101
  go_wp2_with fail
  refine HS0.out.mono ?_
  rintro e w1 ⟨rfl, hS, _⟩
  have hB0 := HY.out.size _ _ hS
  have HS := Aside0.mk (HY.out.alloc _ _ (.cells #[.int .i64 (hiZ (say 0)), .int .i64 (loZ (say 0))] 126) hS)
  have HX := Aside0.mk (show Blk (w1.alloc (.cells #[.int .i64 (hiZ (say 0)), .int .i64 (loZ (say 0))] 126)) w1.heap.size (prC (say 0)) 126 from blk_new w1 (prC (say 0)) 126)
  clear hS HS0
  have HP := Aside0.mk (show Part say [] 0 0 from ⟨rfl, (fun z hz => by cases hz), Nat.le_refl _, by omega, fun p ha hb => by omega⟩)
  go_wp2
  generalize hX : w1.heap.size = X at *
  generalize hW : w1.alloc _ = w2 at *
  clear hX hW
  go_loopg [6, 15] 8704 (fun q v6 v15 wr => ∃ (fr i : Nat) (out : List (Nat × Nat × Nat)), i ≤ 8704 ∧ 8704 - i ≤ q ∧ v6 = .int .i32 (fr : Int) ∧ v15 = .int .i64 (i : Int) ∧ Aside0 (Part say out fr (128 * i)) ∧ Aside0 (St out wr) ∧ Aside0 (Blk wr X (prC (say fr)) 126))
  case atStart => exact ⟨0, 0, [], by omega, by omega, rfl, rfl, HP, HS, HX⟩
  case round =>
    obtain ⟨fr, i, out, hi, hq, rfl, rfl, hP, hS, hX⟩ := hrel
    clear HP HS HX
    obtain ⟨gko, rfl⟩ : ∃ n, n = gk := ⟨_, rfl⟩
    by_cases hlt : i < 8704
    · have hlt' : (i : Int) < 8704 := by omega
      go_wp2_with fail
      refine (HY.out.evens out wr i hS.out hlt).mono ?_
      rintro e w2 ⟨rfl, hS2, hK2⟩
      have HS2 := Aside0.mk hS2
      have HX2 := Aside0.mk (hK2 _ _ hX.out)
      clear hS hS2 hK2 hX
      cases hev : ev i with
      | false =>
        go_wp2
        go_loopg [6, 22] 128 (fun q v6 v22 wr => ∃ (fr2 k : Nat) (out2 : List (Nat × Nat × Nat)), k ≤ 128 ∧ 128 - k ≤ q ∧ v6 = .int .i32 (fr2 : Int) ∧ v22 = .int .i64 (k : Int) ∧ Aside0 (Part say out2 fr2 (128 * i + k)) ∧ Aside0 (St out2 wr) ∧ Aside0 (Blk wr X (prC (say fr2)) 126))
        case atStart => exact ⟨fr, 0, out, by omega, by omega, rfl, rfl, hP, HS2, HX2⟩
        case round =>
          obtain ⟨fr2, k, out2, hk, hq2, rfl, rfl, hP2, hS2, hX2⟩ := hrel
          clear hP HS2 HX2
          by_cases hkl : k < 128
          · have hkl' : (k : Int) < 128 := by omega
            have hp : 128 * i + k < 1114112 := by omega
            have hw : IntKind.i32.wrap ((i : Int) * 128 + (k : Int)) = ((128 * i + k : Nat) : Int) := by rw [IntWalk.i32_in _ (by omega)]; omega
            have hsy := HY.out.says out2 wr (128 * i + k) hS2.out hp
            generalize hpe : 128 * i + k = p at hw hsy hp
            go_wp2_with fail
            refine hsy.mono ?_
            rintro e w3 ⟨rfl, hS3, hK3⟩
            have HX3 := Aside0.mk (hK3 _ _ hX2.out)
            have HS3 := Aside0.mk hS3
            clear hS3 hK3 hsy hX2
            by_cases hy : say p = say fr2
            · have HP3 := Aside0.mk (show Part say out2 fr2 (128 * i + (k + 1)) from by rw [← Nat.add_assoc]; exact hP2.out.go (by rw [hpe]; exact hy))
              rw [hy]
              generalize hz : say fr2 = z at HX3 ⊢
              have HZ := Aside0.mk hz
              have HS4 := Aside0.mk (HY.out.alloc _ _ (.cells #[.int .i64 (hiZ (z)), .int .i64 (loZ (z))] 126) HS3.out)
              have HX4 := Aside0.mk (HX3.out.alloc (.cells #[.int .i64 (hiZ (z)), .int .i64 (loZ (z))] 126))
              have x0 := HX4.out.cell 0
              have x1 := HX4.out.cell 1
              rw [prC, List.getElem?_cons_zero] at x0
              rw [prC, List.getElem?_cons_succ, List.getElem?_cons_zero] at x1
              clear hy hP2 hS2 hz HS3 HX3
              go_wp2_with (first | ((with_reducible refine gate_dst (N := 35) rfl ?_); refine ne_pair rfl (.tmp 33) (.tmp 34) rfl z z false (by rw [decide_eq_true rfl]; rfl) (by go_simp) (by go_simp) ?_) | fail)
              go_roundg (gk - 1)
              case measure => omega
              case rel => exact ⟨fr2, k + 1, out2, by omega, by omega, rfl, by go_num, HP3, HS4, ⟨by rw [HZ.out]; exact HX4.out⟩⟩
            · obtain ⟨h1, hT⟩ := hP2.out.turn (by rw [hpe]; exact hy) (by rw [hpe]; exact hp)
              rw [hpe] at h1 hT
              have HP3 := Aside0.mk (show Part say (out2 ++ [(fr2, p - 1, say fr2)]) p (128 * i + (k + 1)) from by rw [← Nat.add_assoc, hpe]; exact hT)
              have hw1 : IntKind.i32.wrap ((p : Int) - 1) = ((p - 1 : Nat) : Int) := by rw [IntWalk.i32_in _ (by omega)]; omega
              have HS4 := Aside0.mk (HY.out.alloc _ _ (.cells #[.int .i64 (hiZ (say p)), .int .i64 (loZ (say p))] 126) HS3.out)
              have HX4 := Aside0.mk (HX3.out.alloc (.cells #[.int .i64 (hiZ (say p)), .int .i64 (loZ (say p))] 126))
              have HY4 := Aside0.mk (blk_new w3 (prC (say p)) 126)
              have HDO := Aside0.mk (HY.out.does out2 (w3.alloc (.cells #[.int .i64 (hiZ (say p)), .int .i64 (loZ (say p))] 126)) fr2 (p - 1) HS4.out (by omega) (by omega) hP2.out.til)
              have hne : say p ≠ say fr2 := hy
              have x0 := HX4.out.cell 0
              have x1 := HX4.out.cell 1
              rw [prC, List.getElem?_cons_zero] at x0
              rw [prC, List.getElem?_cons_succ, List.getElem?_cons_zero] at x1
              clear hS2 hT HS3 HX3 hP2 HS4 hy
              go_wp2_with (first | ((with_reducible refine gate_dst (N := 35) rfl ?_); refine ne_pair rfl (.tmp 33) (.tmp 34) rfl (say p) (say fr2) true (by rw [decide_eq_false hne]; rfl) (by go_simp) (by go_simp) ?_) | fail)
              refine HDO.out.mono ?_
              rintro e w4 ⟨⟨v4, rfl⟩, hS5, hK5⟩
              have HX5 := Aside0.mk (hK5 _ _ HX4.out)
              have HY5 := Aside0.mk (hK5 _ _ HY4.out)
              have HS5 := Aside0.mk hS5
              clear hS5 hK5 HX4 HY4 x0 x1 HDO
              generalize w3.heap.size = Y at *
              have y0 := HY5.out.cell 0
              have y1 := HY5.out.cell 1
              have x0 := HX5.out.cell 0
              have x1 := HX5.out.cell 1
              have hf := blk_frozen HX5.out 0
              have hf1 := blk_frozen HX5.out 1
              rw [prC, List.getElem?_cons_zero] at y0 x0
              rw [prC, List.getElem?_cons_succ, List.getElem?_cons_zero] at y1 x1
              go_wp2
              go_region
              go_wp2
              go_roundg (gk - 1)
              case measure => omega
              case rel => exact ⟨p, k + 1, _, by omega, by omega, rfl, by go_num, HP3, ⟨HY.out.drew _ _ (HY.out.setP _ _ X _ 1 _ (HY.out.setP _ _ X _ 0 _ HS5.out hB0 HX5.out) hB0 (HX5.out.set 0 _))⟩, ⟨((HX5.out.set 0 (.int .i64 (hiZ (say p)))).set 1 (.int .i64 (loZ (say p)))).drew⟩⟩
          · have hkl' : ¬ (k : Int) < 128 := by omega
            have HP3 := Aside0.mk (show Part say out2 fr2 (128 * (i + 1)) from by rw [show 128 * (i + 1) = 128 * i + k by omega]; exact hP2.out)
            clear hP2
            go_wp2
            go_roundg (gko - 1)
            case measure => omega
            case rel => exact ⟨fr2, i + 1, out2, by omega, by omega, rfl, by go_num, HP3, hS2, hX2⟩
      | true =>
        go_wp2
        go_loopg [6, 22] 1 (fun q v6 v22 wr => ∃ (fr2 k : Nat) (out2 : List (Nat × Nat × Nat)), k ≤ 1 ∧ 1 - k ≤ q ∧ v6 = .int .i32 (fr2 : Int) ∧ v22 = .int .i64 (k : Int) ∧ Aside0 (Part say out2 fr2 (128 * i + k)) ∧ Aside0 (St out2 wr) ∧ Aside0 (Blk wr X (prC (say fr2)) 126))
        case atStart => exact ⟨fr, 0, out, by omega, by omega, rfl, rfl, hP, HS2, HX2⟩
        case round =>
          obtain ⟨fr2, k, out2, hk, hq2, rfl, rfl, hP2, hS2, hX2⟩ := hrel
          clear hP HS2 HX2
          by_cases hkl : k < 1
          · have hkl' : (k : Int) < 1 := by omega
            have hp : 128 * i + k < 1114112 := by omega
            have hw : IntKind.i32.wrap ((i : Int) * 128 + (k : Int)) = ((128 * i + k : Nat) : Int) := by rw [IntWalk.i32_in _ (by omega)]; omega
            have hsy := HY.out.says out2 wr (128 * i + k) hS2.out hp
            generalize hpe : 128 * i + k = p at hw hsy hp
            go_wp2_with fail
            refine hsy.mono ?_
            rintro e w3 ⟨rfl, hS3, hK3⟩
            have HX3 := Aside0.mk (hK3 _ _ hX2.out)
            have HS3 := Aside0.mk hS3
            clear hS3 hK3 hsy hX2
            by_cases hy : say p = say fr2
            · have HP3 := Aside0.mk (show Part say out2 fr2 (128 * i + (k + 1)) from by rw [← Nat.add_assoc]; exact hP2.out.go (by rw [hpe]; exact hy))
              rw [hy]
              generalize hz : say fr2 = z at HX3 ⊢
              have HZ := Aside0.mk hz
              have HS4 := Aside0.mk (HY.out.alloc _ _ (.cells #[.int .i64 (hiZ (z)), .int .i64 (loZ (z))] 126) HS3.out)
              have HX4 := Aside0.mk (HX3.out.alloc (.cells #[.int .i64 (hiZ (z)), .int .i64 (loZ (z))] 126))
              have x0 := HX4.out.cell 0
              have x1 := HX4.out.cell 1
              rw [prC, List.getElem?_cons_zero] at x0
              rw [prC, List.getElem?_cons_succ, List.getElem?_cons_zero] at x1
              clear hy hP2 hS2 hz HS3 HX3
              go_wp2_with (first | ((with_reducible refine gate_dst (N := 35) rfl ?_); refine ne_pair rfl (.tmp 33) (.tmp 34) rfl z z false (by rw [decide_eq_true rfl]; rfl) (by go_simp) (by go_simp) ?_) | fail)
              go_roundg (gk - 1)
              case measure => omega
              case rel => exact ⟨fr2, k + 1, out2, by omega, by omega, rfl, by go_num, HP3, HS4, ⟨by rw [HZ.out]; exact HX4.out⟩⟩
            · obtain ⟨h1, hT⟩ := hP2.out.turn (by rw [hpe]; exact hy) (by rw [hpe]; exact hp)
              rw [hpe] at h1 hT
              have HP3 := Aside0.mk (show Part say (out2 ++ [(fr2, p - 1, say fr2)]) p (128 * i + (k + 1)) from by rw [← Nat.add_assoc, hpe]; exact hT)
              have hw1 : IntKind.i32.wrap ((p : Int) - 1) = ((p - 1 : Nat) : Int) := by rw [IntWalk.i32_in _ (by omega)]; omega
              have HS4 := Aside0.mk (HY.out.alloc _ _ (.cells #[.int .i64 (hiZ (say p)), .int .i64 (loZ (say p))] 126) HS3.out)
              have HX4 := Aside0.mk (HX3.out.alloc (.cells #[.int .i64 (hiZ (say p)), .int .i64 (loZ (say p))] 126))
              have HY4 := Aside0.mk (blk_new w3 (prC (say p)) 126)
              have HDO := Aside0.mk (HY.out.does out2 (w3.alloc (.cells #[.int .i64 (hiZ (say p)), .int .i64 (loZ (say p))] 126)) fr2 (p - 1) HS4.out (by omega) (by omega) hP2.out.til)
              have hne : say p ≠ say fr2 := hy
              have x0 := HX4.out.cell 0
              have x1 := HX4.out.cell 1
              rw [prC, List.getElem?_cons_zero] at x0
              rw [prC, List.getElem?_cons_succ, List.getElem?_cons_zero] at x1
              clear hS2 hT HS3 HX3 hP2 HS4 hy
              go_wp2_with (first | ((with_reducible refine gate_dst (N := 35) rfl ?_); refine ne_pair rfl (.tmp 33) (.tmp 34) rfl (say p) (say fr2) true (by rw [decide_eq_false hne]; rfl) (by go_simp) (by go_simp) ?_) | fail)
              refine HDO.out.mono ?_
              rintro e w4 ⟨⟨v4, rfl⟩, hS5, hK5⟩
              have HX5 := Aside0.mk (hK5 _ _ HX4.out)
              have HY5 := Aside0.mk (hK5 _ _ HY4.out)
              have HS5 := Aside0.mk hS5
              clear hS5 hK5 HX4 HY4 x0 x1 HDO
              generalize w3.heap.size = Y at *
              have y0 := HY5.out.cell 0
              have y1 := HY5.out.cell 1
              have x0 := HX5.out.cell 0
              have x1 := HX5.out.cell 1
              have hf := blk_frozen HX5.out 0
              have hf1 := blk_frozen HX5.out 1
              rw [prC, List.getElem?_cons_zero] at y0 x0
              rw [prC, List.getElem?_cons_succ, List.getElem?_cons_zero] at y1 x1
              go_wp2
              go_region
              go_wp2
              go_roundg (gk - 1)
              case measure => omega
              case rel => exact ⟨p, k + 1, _, by omega, by omega, rfl, by go_num, HP3, ⟨HY.out.drew _ _ (HY.out.setP _ _ X _ 1 _ (HY.out.setP _ _ X _ 0 _ HS5.out hB0 HX5.out) hB0 (HX5.out.set 0 _))⟩, ⟨((HX5.out.set 0 (.int .i64 (hiZ (say p)))).set 1 (.int .i64 (loZ (say p)))).drew⟩⟩
          · have hkl' : ¬ (k : Int) < 1 := by omega
            have HP3 := Aside0.mk (show Part say out2 fr2 (128 * (i + 1)) from Part.wide (by rw [show 128 * i + 1 = 128 * i + k by omega]; exact hP2.out) (HY.out.even_ok i hlt hev))
            clear hP2
            go_wp2
            go_roundg (gko - 1)
            case measure => omega
            case rel => exact ⟨fr2, i + 1, out2, by omega, by omega, rfl, by go_num, HP3, hS2, hX2⟩
    · have hlt' : ¬ (i : Int) < 8704 := by omega
      have e8 : 128 * i = 1114112 := by omega
      have hP9 := hP.out
      rw [e8] at hP9
      have hdo := HY.out.does out wr fr 1114111 hS.out (by have := hP9.lt; omega) (by omega) hP9.til
      have HP9 := Aside0.mk hP9.fin
      have x0 := hX.out.cell 0
      have x1 := hX.out.cell 1
      rw [prC, List.getElem?_cons_zero] at x0
      rw [prC, List.getElem?_cons_succ, List.getElem?_cons_zero] at x1
      clear hP hP9 hS
      go_wp2_with fail
      refine hdo.mono ?_
      rintro e w4 ⟨⟨v4, rfl⟩, hS4, _⟩
      have HF := Aside0.mk (show ∀ v, StretchPost say St (.returned v) w4 from fun v => ⟨⟨v, rfl⟩, _, HP9.out, hS4⟩)
      clear hdo hS4
      go_wp2
      go_returns
      exact HF.out _

end Go.Proofs.Ytajmbafljncjcaa.Stage

/-! ### BothC: stage.both: what two tables are told together by. -/
namespace Go.Proofs.Ytajmbafljncjcaa.Stage
open Go.RowKit Go.Proofs.YtajmbafljncjcaaW.PrintWords Go.Proofs.YtajmbafljncjcaaW.PrintLast Go.Proofs.YtajmbafljncjcaaW.PrintMore Go.Proofs.Ytajmbafljncjcaa.Mp
set_option linter.unusedVariables false
set_option linter.unusedSimpArgs false

set_option maxRecDepth 100000 in
theorem both1_calls (W : World) (Ba Bb : Nat) (va vb : Option Addr) (sa sb : Nat → Nat) (ha : Han W va sa) (hb : Han W vb sb) (i : Nat) (hi : i < 8704) (hA : W.cell? ⟨Ba, 0, none⟩ = some (.pointer va)) (hB : W.cell? ⟨Bb, 0, none⟩ = some (.pointer vb)) :
    Calls Try.prog 97 #[.int .i64 (i : Int), .pointer (some ⟨Ba, 0, none⟩), .pointer (some ⟨Bb, 0, none⟩)] W fun e w' => e = .returned (.bool (evenB sa i && evenB sb i)) ∧ Below W.heap.size W w' := by
  have HE := Aside0.mk (even_calls W va sa ha i hi)
  have HG := Aside0.mk (fun (W1 : World) (h : Below W.heap.size W W1) => even_calls W1 vb sb (hb.below h) i hi)
  clear ha hb
  cases e1 : evenB sa i with
  | false =>
    rw [e1] at HE
    go_enter Try.func97, Try.ntmps97
    go_wp2_with fail
    refine HE.out.mono ?_
    rintro e w1 ⟨rfl, k, rfl⟩
    go_wp2_with fail
    go_ret
    exact ⟨rfl, pw_below_drewN (Below.refl _ _) _⟩
  | true =>
    rw [e1] at HE
    go_enter Try.func97, Try.ntmps97
    go_wp2_with fail
    refine HE.out.mono ?_
    rintro e w1 ⟨rfl, k, rfl⟩
    have hbd : Below W.heap.size W (W.drewN k) := pw_below_drewN (Below.refl _ _) _
    have HG1 := Aside0.mk (HG.out _ hbd)
    go_wp2_with fail
    refine HG1.out.mono ?_
    rintro e w2 ⟨rfl, k2, rfl⟩
    go_wp2_with fail
    go_ret
    exact ⟨by simp, pw_below_drewN (Below.refl _ _) _⟩
theorem lookI_nat (say : Nat → Nat) {p : Nat} (hp : p < 1114112) : lookI say (p : Int) = ((say p : Nat) : Int) := by unfold lookI; rw [if_pos (by omega), Int.toNat_natCast]
set_option maxRecDepth 100000 in
theorem both_calls (W : World) (va vb : Option Addr) : Calls Try.prog 74 #[.pointer va, .pointer vb] W fun e w' => e = .returned (.func (.func 97) #[] #[.pointer (some ⟨W.heap.size, 0, none⟩), .pointer (some ⟨W.heap.size + 1, 0, none⟩)]) ∧ w' = (W.alloc (.cells #[.pointer va] 23)).alloc (.cells #[.pointer vb] 23) := by
  have hmf : ∀ (fn : Fn) (first cap : Array Value) (w : World), (Instr.makeFunc fn first cap).run Try.prog w = .ok (.func fn first cap) w := fun _ _ _ _ => rfl
  go_enter Try.func74, Try.ntmps74
  go_wp2
  go_ret
  exact ⟨rfl, rfl⟩
theorem run_store_func {P : Program} {w : World} {a : Addr} {m : Mode} (f : Fn) (x y : Array Value) : (store a (.func f x y) m).run P w = stored P w a (.func f x y) m := run_store P w a _ m rfl
theorem blk_b {w w1 : World} {b : Nat} {cs : List Value} {t : TypeId} (h : Blk w b cs t) (hb : Below w.heap.size w w1) : Blk w1 b cs t := (hb.block b h.lt).trans h

end Go.Proofs.Ytajmbafljncjcaa.Stage
