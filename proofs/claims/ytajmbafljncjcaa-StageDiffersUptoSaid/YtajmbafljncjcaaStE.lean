/- stretches: the longest stretches of one number, of what is said of each code point. even: has a block one number alone? runs: all stretches of a table, to whatever is handed in. Plain lists: rows that cover all, one laid over the other. No program here. -/
import Derived.Test.YtajmbafljncjcaaStC
import Derived.Test.YtajmbafljncjcaaStA
import Derived.Handy
import Derived.Test.YtajmbafljncjcaaStD
/- ### Stretch: stretches: the longest stretches of one number, of what is said of each code point. -/
namespace Go.Proofs.Ytajmbafljncjcaa.Stage
open Go.RowKit Go.Proofs.YtajmbafljncjcaaW.PrintWords Go.Proofs.YtajmbafljncjcaaW.PrintLast Go.Proofs.YtajmbafljncjcaaW.PrintMore Go.Proofs.Ytajmbafljncjcaa.Mp
set_option linter.unusedVariables false
set_option linter.unusedSimpArgs false

theorem Til.snoc {say : Nat → Nat} {hi b n : Nat} (h1 : hi ≤ b) (h2 : ∀ p, hi ≤ p → p ≤ b → say p = n) : ∀ {l : List (Nat × Nat × Nat)} {low : Nat}, Til say hi low l → (∀ z ∈ l.getLast?, z.2.2 ≠ n) → Til say (b + 1) low (l ++ [(hi, b, n)])
  | [], low, h, _ => by
    obtain rfl : low = hi := h
    exact ⟨rfl, h1, h2, (fun z hz => by cases hz), rfl⟩
  | [y], low, h, hl => by
    obtain ⟨a1, a2, a3, a4, a5⟩ := h
    have a5 : y.2.1 + 1 = hi := a5
    refine ⟨a1, a2, a3, fun z hz => ?_, by simp only; omega, by simp only; omega, fun p ha hb => h2 p (by omega) hb, (fun z hz => by cases hz), rfl⟩
    obtain rfl : (hi, b, n) = z := Option.some.inj hz
    exact fun h => hl y rfl h.symm
  | y :: z :: t, low, h, hl => by
    obtain ⟨a1, a2, a3, a4, a5⟩ := h
    exact ⟨a1, a2, a3, a4, Til.snoc h1 h2 a5 (by simpa using hl)⟩

/-- The three functions that stretches is handed, and how what they write stands: St: the stretches told so far. -/
structure Ways (say : Nat → Nat) (ev : Nat → Bool) (St : List (Nat × Nat × Nat) → World → Prop) (Ns : FuncId) (fs cs : Array Value) (Ne : FuncId) (fe ce : Array Value) (Nd : FuncId) (fd cd : Array Value) : Prop where
  entS : ∀ (args : Array Value) (W : World), (callFunc Ns args).run Try.prog W = .ok (.enter Ns args) W
  entE : ∀ (args : Array Value) (W : World), (callFunc Ne args).run Try.prog W = .ok (.enter Ne args) W
  entD : ∀ (args : Array Value) (W : World), (callFunc Nd args).run Try.prog W = .ok (.enter Nd args) W
  even_ok : ∀ i, i < 8704 → ev i = true → ∀ j, j < 128 → say (128 * i + j) = say (128 * i)
  says : ∀ (out : List (Nat × Nat × Nat)) (W : World) (p : Nat), St out W → p < 1114112 → Calls Try.prog Ns (fs ++ #[.int .i32 (p : Int)] ++ cs) W fun e W' => e = .returned (.int .i64 (say p : Nat)) ∧ St out W'
  evens : ∀ (out : List (Nat × Nat × Nat)) (W : World) (i : Nat), St out W → i < 8704 → Calls Try.prog Ne (fe ++ #[.int .i64 (i : Int)] ++ ce) W fun e W' => e = .returned (.bool (ev i)) ∧ St out W'
  does : ∀ (out : List (Nat × Nat × Nat)) (W : World) (a b : Nat), St out W → a ≤ b → b ≤ 1114111 → Til say a 0 out → Calls Try.prog Nd (fd ++ (#[.int .i32 (a : Int), .int .i32 (b : Int), .int .i64 (say a : Nat)] ++ cd)) W fun e W' => (∃ v, e = .returned v) ∧ St (out ++ [(a, b, say a)]) W'

/-- How far the stretches reach: out tells all ahead of fr; from there on up to hi all say the same. -/
structure Part (say : Nat → Nat) (out : List (Nat × Nat × Nat)) (fr hi : Nat) : Prop where
  til : Til say fr 0 out
  last : ∀ z ∈ out.getLast?, z.2.2 ≠ say fr
  le : fr ≤ hi
  lt : fr < 1114112
  same : ∀ p, fr ≤ p → p < hi → say p = say fr

theorem Part.go {say : Nat → Nat} {out : List (Nat × Nat × Nat)} {fr hi : Nat} (h : Part say out fr hi) (e : say hi = say fr) : Part say out fr (hi + 1) :=
  ⟨h.til, h.last, by have := h.le; omega, h.lt, fun p ha hb => by
      by_cases hp : p < hi
      · exact h.same p ha hp
      · have e1 : p = hi := by omega
        rw [e1]
        exact e⟩
theorem Part.turn {say : Nat → Nat} {out : List (Nat × Nat × Nat)} {fr hi : Nat} (h : Part say out fr hi) (e : say hi ≠ say fr) (hh : hi < 1114112) : fr + 1 ≤ hi ∧ Part say (out ++ [(fr, hi - 1, say fr)]) hi (hi + 1) := by
  have h1 : fr + 1 ≤ hi := by
    have := h.le
    rcases Nat.eq_or_lt_of_le this with rfl | h2
    · exact absurd rfl e
    · exact h2
  refine ⟨h1, ?_, fun z hz => ?_, by omega, hh, fun p ha hb => by rw [show p = hi by omega]⟩
  · have := Til.snoc (b := hi - 1) (n := say fr) (by omega) (fun p ha hb => h.same p ha (by omega)) h.til h.last
    rwa [show hi - 1 + 1 = hi by omega] at this
  · simp only [List.getLast?_append, List.getLast?_singleton, Option.some_or, Option.mem_def, Option.some.injEq] at hz
    subst hz
    exact fun h => e h.symm
theorem Part.wide {say : Nat → Nat} {out : List (Nat × Nat × Nat)} {fr i : Nat} (h : Part say out fr (128 * i + 1)) (he : ∀ j, j < 128 → say (128 * i + j) = say (128 * i)) : Part say out fr (128 * (i + 1)) :=
  ⟨h.til, h.last, by have := h.le; omega, h.lt, fun p ha hb => by
      by_cases hp : p < 128 * i + 1
      · exact h.same p ha hp
      · have hle := h.le
        have e1 := he (p - 128 * i) (by omega)
        rw [show 128 * i + (p - 128 * i) = p by omega] at e1
        rw [e1]
        by_cases hfr : fr ≤ 128 * i
        · exact h.same (128 * i) hfr (by omega)
        · rw [show fr = 128 * i + 1 by omega]
          exact (he 1 (by omega)).symm⟩
theorem Part.fin {say : Nat → Nat} {out : List (Nat × Nat × Nat)} {fr : Nat} (h : Part say out fr 1114112) : Til say 1114112 0 (out ++ [(fr, 1114111, say fr)]) :=
  Til.snoc (hi := fr) (b := 1114111) (n := say fr) (by have := h.lt; omega) (fun p ha hb => h.same p ha (by omega)) h.til h.last

def StretchPost (say : Nat → Nat) (St : List (Nat × Nat × Nat) → World → Prop) (e : Ending) (W' : World) : Prop := (∃ v, e = .returned v) ∧ ∃ out, Til say 1114112 0 out ∧ St out W'

set_option maxRecDepth 100000 in
set_option maxHeartbeats 1600000 in
theorem stretches_calls {say : Nat → Nat} {ev : Nat → Bool} {St : List (Nat × Nat × Nat) → World → Prop} {Ns : FuncId} {fs cs : Array Value} {Ne : FuncId} {fe ce : Array Value} {Nd : FuncId} {fd cd : Array Value} (Y : Ways say ev St Ns fs cs Ne fe ce Nd fd cd) (w : World) (h0 : St [] w) :
    Calls Try.prog 89 #[.func (.func Ns) fs cs, .func (.func Ne) fe ce, .func (.func Nd) fd cd] w (StretchPost say St) := by
  have HY := Aside0.mk Y
  have entS := Y.entS
  have entE := Y.entE
  have entD := Y.entD
  have HS0 := Aside0.mk (Y.says [] w 0 h0 (by omega))
  clear Y h0
  go_enter Try.func89, Try.ntmps89
  go_wp2_with fail
  refine HS0.out.mono ?_
  rintro e w1 ⟨rfl, hS⟩
  have HS := Aside0.mk hS
  clear hS HS0
  have HP := Aside0.mk (show Part say [] 0 0 from ⟨rfl, (fun z hz => by cases hz), Nat.le_refl _, by omega, fun p ha hb => by omega⟩)
  go_wp2
  go_loopg [6, 7, 15] 8704 (fun q v6 v7 v15 wr => ∃ (fr i : Nat) (out : List (Nat × Nat × Nat)), i ≤ 8704 ∧ 8704 - i ≤ q ∧ v6 = .int .i32 (fr : Int) ∧ v7 = .int .i64 (say fr : Nat) ∧ v15 = .int .i64 (i : Int) ∧ Aside0 (Part say out fr (128 * i)) ∧ Aside0 (St out wr))
  case atStart => exact ⟨0, 0, [], by omega, by omega, rfl, rfl, rfl, HP, HS⟩
  case round =>
    obtain ⟨fr, i, out, hi, hq, rfl, rfl, rfl, hP, hS⟩ := hrel
    clear HP HS
    obtain ⟨gko, rfl⟩ : ∃ n, n = gk := ⟨_, rfl⟩
    by_cases hlt : i < 8704
    · have hlt' : (i : Int) < 8704 := by omega
      go_wp2_with fail
      refine (HY.out.evens out wr i hS.out hlt).mono ?_
      rintro e w2 ⟨rfl, hS2⟩
      have HS2 := Aside0.mk hS2
      clear hS hS2
      cases hev : ev i with
      | false =>
        go_wp2
        go_loopg [6, 7, 22] 128 (fun q v6 v7 v22 wr => ∃ (fr2 k : Nat) (out2 : List (Nat × Nat × Nat)), k ≤ 128 ∧ 128 - k ≤ q ∧ v6 = .int .i32 (fr2 : Int) ∧ v7 = .int .i64 (say fr2 : Nat) ∧ v22 = .int .i64 (k : Int) ∧ Aside0 (Part say out2 fr2 (128 * i + k)) ∧ Aside0 (St out2 wr))
        case atStart => exact ⟨fr, 0, out, by omega, by omega, rfl, rfl, rfl, hP, HS2⟩
        case round =>
          obtain ⟨fr2, k, out2, hk, hq2, rfl, rfl, rfl, hP2, hS2⟩ := hrel
          clear hP HS2
          by_cases hkl : k < 128
          · have hkl' : (k : Int) < 128 := by omega
            have hp : 128 * i + k < 1114112 := by omega
            have hw : IntKind.i32.wrap ((i : Int) * 128 + (k : Int)) = ((128 * i + k : Nat) : Int) := by rw [IntWalk.i32_in _ (by omega)]; omega
            have hsy := HY.out.says out2 wr (128 * i + k) hS2.out hp
            generalize hpe : 128 * i + k = p at hw hsy hp
            go_wp2_with fail
            refine hsy.mono ?_
            rintro e w3 ⟨rfl, hS3⟩
            by_cases hy : say p = say fr2
            · have HP3 := Aside0.mk (show Part say out2 fr2 (128 * i + (k + 1)) from by rw [← Nat.add_assoc]; exact hP2.out.go (by rw [hpe]; exact hy))
              have HS3 := Aside0.mk hS3
              rw [hy]
              clear hy hsy hS3 hP2 hS2
              go_wp2
              go_roundg (gk - 1)
              case measure => omega
              case rel => exact ⟨fr2, k + 1, out2, by omega, by omega, rfl, by first | rfl | simp_all, by go_num, HP3, HS3⟩
            · obtain ⟨h1, hT⟩ := hP2.out.turn (by rw [hpe]; exact hy) (by rw [hpe]; exact hp)
              rw [hpe] at h1 hT
              have HP3 := Aside0.mk (show Part say (out2 ++ [(fr2, p - 1, say fr2)]) p (128 * i + (k + 1)) from by rw [← Nat.add_assoc, hpe]; exact hT)
              have hw1 : IntKind.i32.wrap ((p : Int) - 1) = ((p - 1 : Nat) : Int) := by rw [IntWalk.i32_in _ (by omega)]; omega
              have hdo := HY.out.does out2 w3 fr2 (p - 1) hS3 (by omega) (by omega) hP2.out.til
              have hne : ¬ ((say p : Nat) : Int) = ((say fr2 : Nat) : Int) := by omega
              clear hsy hS3 hP2 hS2 hT
              go_wp2_with fail
              refine hdo.mono ?_
              rintro e w4 ⟨⟨v4, rfl⟩, hS4⟩
              have HS4 := Aside0.mk hS4
              clear hdo hS4
              go_wp2
              go_roundg (gk - 1)
              case measure => omega
              case rel => exact ⟨p, k + 1, out2 ++ [(fr2, p - 1, say fr2)], by omega, by omega, rfl, rfl, by go_num, HP3, HS4⟩
          · have hkl' : ¬ (k : Int) < 128 := by omega
            have HP3 := Aside0.mk (show Part say out2 fr2 (128 * (i + 1)) from by rw [show 128 * (i + 1) = 128 * i + k by omega]; exact hP2.out)
            clear hP2
            go_wp2
            go_roundg (gko - 1)
            case measure => omega
            case rel => exact ⟨fr2, i + 1, out2, by omega, by omega, rfl, rfl, by go_num, HP3, hS2⟩
      | true =>
        go_wp2
        go_loopg [6, 7, 22] 1 (fun q v6 v7 v22 wr => ∃ (fr2 k : Nat) (out2 : List (Nat × Nat × Nat)), k ≤ 1 ∧ 1 - k ≤ q ∧ v6 = .int .i32 (fr2 : Int) ∧ v7 = .int .i64 (say fr2 : Nat) ∧ v22 = .int .i64 (k : Int) ∧ Aside0 (Part say out2 fr2 (128 * i + k)) ∧ Aside0 (St out2 wr))
        case atStart => exact ⟨fr, 0, out, by omega, by omega, rfl, rfl, rfl, hP, HS2⟩
        case round =>
          obtain ⟨fr2, k, out2, hk, hq2, rfl, rfl, rfl, hP2, hS2⟩ := hrel
          clear hP HS2
          by_cases hkl : k < 1
          · have hkl' : (k : Int) < 1 := by omega
            have hp : 128 * i + k < 1114112 := by omega
            have hw : IntKind.i32.wrap ((i : Int) * 128 + (k : Int)) = ((128 * i + k : Nat) : Int) := by rw [IntWalk.i32_in _ (by omega)]; omega
            have hsy := HY.out.says out2 wr (128 * i + k) hS2.out hp
            generalize hpe : 128 * i + k = p at hw hsy hp
            go_wp2_with fail
            refine hsy.mono ?_
            rintro e w3 ⟨rfl, hS3⟩
            by_cases hy : say p = say fr2
            · have HP3 := Aside0.mk (show Part say out2 fr2 (128 * i + (k + 1)) from by rw [← Nat.add_assoc]; exact hP2.out.go (by rw [hpe]; exact hy))
              have HS3 := Aside0.mk hS3
              rw [hy]
              clear hy hsy hS3 hP2 hS2
              go_wp2
              go_roundg (gk - 1)
              case measure => omega
              case rel => exact ⟨fr2, k + 1, out2, by omega, by omega, rfl, by first | rfl | simp_all, by go_num, HP3, HS3⟩
            · obtain ⟨h1, hT⟩ := hP2.out.turn (by rw [hpe]; exact hy) (by rw [hpe]; exact hp)
              rw [hpe] at h1 hT
              have HP3 := Aside0.mk (show Part say (out2 ++ [(fr2, p - 1, say fr2)]) p (128 * i + (k + 1)) from by rw [← Nat.add_assoc, hpe]; exact hT)
              have hw1 : IntKind.i32.wrap ((p : Int) - 1) = ((p - 1 : Nat) : Int) := by rw [IntWalk.i32_in _ (by omega)]; omega
              have hdo := HY.out.does out2 w3 fr2 (p - 1) hS3 (by omega) (by omega) hP2.out.til
              have hne : ¬ ((say p : Nat) : Int) = ((say fr2 : Nat) : Int) := by omega
              clear hsy hS3 hP2 hS2 hT
              go_wp2_with fail
              refine hdo.mono ?_
              rintro e w4 ⟨⟨v4, rfl⟩, hS4⟩
              have HS4 := Aside0.mk hS4
              clear hdo hS4
              go_wp2
              go_roundg (gk - 1)
              case measure => omega
              case rel => exact ⟨p, k + 1, out2 ++ [(fr2, p - 1, say fr2)], by omega, by omega, rfl, rfl, by go_num, HP3, HS4⟩
          · have hkl' : ¬ (k : Int) < 1 := by omega
            have HP3 := Aside0.mk (show Part say out2 fr2 (128 * (i + 1)) from Part.wide (by rw [show 128 * i + 1 = 128 * i + k by omega]; exact hP2.out) (HY.out.even_ok i hlt hev))
            clear hP2
            go_wp2
            go_roundg (gko - 1)
            case measure => omega
            case rel => exact ⟨fr2, i + 1, out2, by omega, by omega, rfl, rfl, by go_num, HP3, hS2⟩
    · have hlt' : ¬ (i : Int) < 8704 := by omega
      have e8 : 128 * i = 1114112 := by omega
      have hP9 := hP.out
      rw [e8] at hP9
      have hdo := HY.out.does out wr fr 1114111 hS.out (by have := hP9.lt; omega) (by omega) hP9.til
      have HP9 := Aside0.mk hP9.fin
      clear hP hP9 hS
      go_wp2_with fail
      refine hdo.mono ?_
      rintro e w4 ⟨⟨v4, rfl⟩, hS4⟩
      have HF := Aside0.mk (show ∀ v, StretchPost say St (.returned v) w4 from fun v => ⟨⟨v, rfl⟩, _, HP9.out, hS4⟩)
      clear hdo hS4
      go_wp2
      go_returns
      exact HF.out _

end Go.Proofs.Ytajmbafljncjcaa.Stage

/- ### Even: even: has a block one number alone? -/
namespace Go.Proofs.Ytajmbafljncjcaa.Stage
open Go.RowKit Go.Proofs.YtajmbafljncjcaaW.PrintWords Go.Proofs.YtajmbafljncjcaaW.PrintLast Go.Proofs.YtajmbafljncjcaaW.PrintMore
set_option linter.unusedVariables false
set_option linter.unusedSimpArgs false

def evenB (say : Nat → Nat) (i : Nat) : Bool := flatB (blkOf say i)
theorem evenB_ok {say : Nat → Nat} {i : Nat} (h : evenB say i = true) (j : Nat) (hj : j < 128) : say (128 * i + j) = say (128 * i) := by
  unfold evenB flatB at h
  rw [List.all_eq_true] at h
  have h1 := h j (List.mem_range.2 hj)
  rw [blkOf_get _ _ _ hj, blkOf_get _ _ _ (by omega)] at h1
  simpa using h1
theorem evenB_zero {say : Nat → Nat} (h : ∀ p, p < 1114112 → say p = 0) {i : Nat} (hi : i < 8704) : evenB say i = true := by
  unfold evenB flatB
  rw [List.all_eq_true]
  intro j hj
  have hj := List.mem_range.1 hj
  rw [blkOf_get _ _ _ hj, blkOf_get _ _ _ (by omega), h _ (by omega), h _ (by omega)]
  rfl

theorem even_nil (w : World) (i : Int) : Calls Try.prog 70 #[.pointer none, .int .i64 i] w fun e w' => e = .returned (.bool true) ∧ ∃ n, w' = w.drewN n := by
  go_enter Try.func70, Try.ntmps70
  go_wp2
  go_quiet (fail)
  go_wp2
  go_ret
  exact ⟨rfl, _, rfl⟩

set_option maxRecDepth 100000 in
set_option maxHeartbeats 400000 in
theorem even_in {w : World} {b g c g' c' : Nat} {t : Tab} (h : TabIn w b g c g' c' t) (i : Nat) (hi : i < 8704) :
    Calls Try.prog 70 #[.pointer (some ⟨b, 0, none⟩), .int .i64 (i : Int)] w fun e w' => e = .returned (.bool (t.plain.getD (t.which.getD i 0) false)) ∧ ∃ n, w' = w.drewN n := by
  have hx := h.idx i hi
  have hcw := h.hw i hi
  generalize t.which.getD i 0 = x at hx hcw
  have hcu := h.hp
  have hcb := h.hpb x hx
  have hpl := h.plen
  generalize t.plain.getD x false = y at hcb
  generalize t.unlike.length = m at hx hcu
  have l1' : (i : Int) < 8704 := by omega
  have hx' : (x : Int) < (m : Int) := by omega
  clear h hpl
  go_enter Try.func70, Try.ntmps70
  go_wp2
  go_quiet (fail)
  go_wp2
  go_ret
  exact ⟨rfl, _, rfl⟩

theorem tabOf_plain (bs : List (List Nat)) : (tabOf bs).plain = (tabOf bs).unlike.map flatB := rfl
theorem tabSay_plain (say : Nat → Nat) : (tabSay say).plain = (tabSay say).unlike.map flatB := by unfold tabSay; exact tabOf_plain _
theorem plain_at (t : Tab) (hp : t.plain = t.unlike.map flatB) (x : Nat) (hx : x < t.unlike.length) : t.plain.getD x false = flatB (t.unlike.getD x []) := by
  rw [hp, List.getD_eq_getElem?_getD, List.getD_eq_getElem?_getD, List.getElem?_map, List.getElem?_eq_getElem hx]
  rfl
theorem even_calls (w : World) (v : Option Addr) (say : Nat → Nat) (hh : Han w v say) (i : Nat) (hi : i < 8704) : Calls Try.prog 70 #[.pointer v, .int .i64 (i : Int)] w fun e w' => e = .returned (.bool (evenB say i)) ∧ ∃ n, w' = w.drewN n := by
  rcases hh with ⟨rfl, hz⟩ | ⟨b, rfl, g, c, g', c', ht⟩
  · rw [evenB_zero hz hi]
    exact even_nil w i
  · have h := even_in ht i hi
    have e : (tabSay say).plain.getD ((tabSay say).which.getD i 0) false = evenB say i := (plain_at (tabSay say) (tabSay_plain say) _ (ht.idx i hi)).trans (congrArg flatB (tabSay_blk say i hi))
    rw [e] at h
    exact h

end Go.Proofs.Ytajmbafljncjcaa.Stage

/- ### Runs: runs: all stretches of a table, to whatever is handed in. -/
namespace Go.Proofs.Ytajmbafljncjcaa.Stage
open Go.RowKit Go.Proofs.YtajmbafljncjcaaW.PrintWords Go.Proofs.YtajmbafljncjcaaW.PrintLast Go.Proofs.YtajmbafljncjcaaW.PrintMore Go.Proofs.Ytajmbafljncjcaa.Mp
set_option linter.unusedVariables false
set_option linter.unusedSimpArgs false

/-- What holds functions stays. -/
def FuncKept (W W' : World) : Prop := ∀ (k : Nat) (cs : List Value), Blk W k cs 98 → Blk W' k cs 98

/-- A function that is handed each stretch: St: how what it writes stands. -/
structure Does (say : Nat → Nat) (v : Option Addr) (St : List (Nat × Nat × Nat) → World → Prop) (Nd : FuncId) (fd cd : Array Value) : Prop where
  ent : ∀ (args : Array Value) (W : World), (callFunc Nd args).run Try.prog W = .ok (.enter Nd args) W
  han : ∀ (out : List (Nat × Nat × Nat)) (W : World), St out W → Han W v say
  drew : ∀ (out : List (Nat × Nat × Nat)) (W : World) (n : Nat), St out W → St out (W.drewN n)
  alloc : ∀ (out : List (Nat × Nat × Nat)) (W : World) (o : Obj), St out W → St out (W.alloc o)
  does : ∀ (out : List (Nat × Nat × Nat)) (W : World) (a b : Nat), St out W → a ≤ b → b ≤ 1114111 → Til say a 0 out → Calls Try.prog Nd (fd.push (.agg #[.int .i32 (a : Int), .int .i32 (b : Int), .int .i64 (say a : Nat)]) ++ cd) W fun e W' => (∃ v, e = .returned v) ∧ St (out ++ [(a, b, say a)]) W' ∧ FuncKept W W'

theorem ways_of {say : Nat → Nat} {v : Option Addr} {St : List (Nat × Nat × Nat) → World → Prop} {Nd : FuncId} {fd cd : Array Value} (D : Does say v St Nd fd cd) (B : Nat) :
    Ways say (evenB say) (fun out W => St out W ∧ Blk W B [.func (.func Nd) fd cd] 98) 17 #[.pointer v] #[] 70 #[.pointer v] #[] 90 #[] #[.pointer (some ⟨B, 0, none⟩)] where
  entS := call_enters Try.func17 (by kernel_rfl) (by kernel_rfl)
  entE := call_enters Try.func70 (by kernel_rfl) (by kernel_rfl)
  entD := call_enters Try.func90 (by kernel_rfl) (by kernel_rfl)
  even_ok := fun i hi h j hj => evenB_ok h j hj
  says := fun out W p h hp => by
    refine (look_calls W v say (D.han out W h.1) p).mono ?_
    rintro e w' ⟨rfl, n, rfl⟩
    refine ⟨?_, D.drew out W n h.1, h.2⟩
    unfold lookI
    rw [if_pos (by omega), Int.toNat_natCast]
  evens := fun out W i h hi => by
    refine (even_calls W v say (D.han out W h.1) i hi).mono ?_
    rintro e w' ⟨rfl, n, rfl⟩
    exact ⟨rfl, D.drew out W n h.1, h.2⟩
  does := fun out W a b h hab hb ht => by
    have ent := D.ent
    have hcell := h.2.cell 0
    have HD := Aside0.mk (D.does out W a b h.1 hab hb ht)
    have HB := Aside0.mk h.2
    clear h
    go_enter Try.func90, Try.ntmps90
    go_wp2_with fail
    refine HD.out.mono ?_
    rintro e w1 ⟨⟨x, rfl⟩, hS, hK⟩
    have HF := Aside0.mk (show (St (out ++ [(a, b, say a)]) w1 ∧ Blk w1 B [.func (.func Nd) fd cd] 98) from ⟨hS, hK _ _ HB.out⟩)
    clear hS hK HD
    go_wp2
    go_returns
    exact ⟨⟨_, rfl⟩, HF.out⟩

def RunsPost (say : Nat → Nat) (St : List (Nat × Nat × Nat) → World → Prop) (e : Ending) (W' : World) : Prop := (∃ v, e = .returned v) ∧ ∃ out, Til say 1114112 0 out ∧ St out W'

theorem runs_calls {say : Nat → Nat} {v : Option Addr} {St : List (Nat × Nat × Nat) → World → Prop} {Nd : FuncId} {fd cd : Array Value} (D : Does say v St Nd fd cd) (w : World) (h0 : St [] w) :
    Calls Try.prog 51 #[.pointer v, .func (.func Nd) fd cd] w (RunsPost say St) := by
  have HS := Aside0.mk (stretches_calls (ways_of D w.heap.size) (w.alloc (.cells #[.func (.func Nd) fd cd] 98)) ⟨D.alloc _ _ _ h0, blk_new w [.func (.func Nd) fd cd] 98⟩)
  have hmf : ∀ (fn : Fn) (first cap : Array Value) (w : World), (Instr.makeFunc fn first cap).run Try.prog w = .ok (.func fn first cap) w := fun _ _ _ _ => rfl
  clear D h0
  go_enter Try.func51, Try.ntmps51
  go_wp2_with fail
  refine HS.out.mono ?_
  rintro e w1 ⟨⟨x, rfl⟩, out, hT, hSt, _⟩
  have HF := Aside0.mk (show ∀ v, RunsPost say St (.returned v) w1 from fun v => ⟨⟨v, rfl⟩, out, hT, hSt⟩)
  clear hT hSt
  go_wp2
  go_returns
  exact HF.out _

end Go.Proofs.Ytajmbafljncjcaa.Stage

/- ### Cov: Plain lists: rows that cover all, one laid over the other. No program here. -/
namespace Go.Proofs.Ytajmbafljncjcaa.Stage
set_option linter.unusedVariables false
set_option linter.unusedSimpArgs false

/-- What rows say. -/
def sayQ (q : List (Nat × Nat × Nat)) (p : Nat) : Nat := (sayR q p).getD 0
/-- The stretches of some other number than 0. -/
def nz (l : List (Nat × Nat × Nat)) : List (Nat × Nat × Nat) := l.filter fun x => x.2.2 != 0

/-- Rows one behind the other from low up to (without) hi. -/
def Cov (say : Nat → Nat) (hi : Nat) : Nat → List (Nat × Nat × Nat) → Prop
  | low, [] => low = hi
  | low, x :: l => x.1 = low ∧ low ≤ x.2.1 ∧ (∀ p, low ≤ p → p ≤ x.2.1 → say p = x.2.2) ∧ Cov say hi (x.2.1 + 1) l

theorem Cov.le {say : Nat → Nat} {hi : Nat} : ∀ {l : List (Nat × Nat × Nat)} {low : Nat}, Cov say hi low l → low ≤ hi
  | [], low, h => Nat.le_of_eq h
  | x :: l, low, h => by have := h.2.2.2.le; have := h.2.1; omega
theorem Cov.length {say : Nat → Nat} {hi : Nat} : ∀ {l : List (Nat × Nat × Nat)} {low : Nat}, Cov say hi low l → low + l.length ≤ hi
  | [], low, h => Nat.le_of_eq h
  | x :: l, low, h => by have := h.2.2.2.length; have := h.2.1; simp only [List.length_cons]; omega
theorem Cov.append {say : Nat → Nat} {mid hi : Nat} {l' : List (Nat × Nat × Nat)} (h' : Cov say hi mid l') : ∀ {l : List (Nat × Nat × Nat)} {low : Nat}, Cov say mid low l → Cov say hi low (l ++ l')
  | [], low, h => by obtain rfl : low = mid := h; exact h'
  | x :: l, low, h => ⟨h.1, h.2.1, h.2.2.1, Cov.append h' h.2.2.2⟩
theorem Cov.one {say : Nat → Nat} {a b n : Nat} (h1 : a ≤ b) (h2 : ∀ p, a ≤ p → p ≤ b → say p = n) : Cov say (b + 1) a [(a, b, n)] := ⟨rfl, h1, h2, rfl⟩
theorem Cov.snoc {say : Nat → Nat} {a b n : Nat} {l : List (Nat × Nat × Nat)} {low : Nat} (h : Cov say a low l) (h1 : a ≤ b) (h2 : ∀ p, a ≤ p → p ≤ b → say p = n) : Cov say (b + 1) low (l ++ [(a, b, n)]) := Cov.append (Cov.one h1 h2) h
theorem Cov.rise {say : Nat → Nat} {hi : Nat} (hh : hi ≤ 1114112) (hs : ∀ p, p < hi → say p ≤ 65535) : ∀ {l : List (Nat × Nat × Nat)} {low : Nat}, Cov say hi low l → RiseN low l
  | [], low, h => trivial
  | x :: l, low, h => by
    obtain ⟨h1, h2, h3, h4⟩ := h
    have := h4.le
    refine ⟨by omega, by omega, by omega, ?_, Cov.rise hh hs h4⟩
    rw [← h3 low (Nat.le_refl _) h2]
    exact hs low (by omega)
theorem Cov.says {say : Nat → Nat} {hi : Nat} : ∀ {l : List (Nat × Nat × Nat)} {low : Nat}, Cov say hi low l → ∀ p, low ≤ p → p < hi → sayR l p = some (say p)
  | [], low, h, p, ha, hb => by have : low = hi := h; omega
  | x :: l, low, h, p, ha, hb => by
    obtain ⟨h1, h2, h3, h4⟩ := h
    rw [sayR_cons]
    by_cases c : x.1 ≤ p ∧ p ≤ x.2.1
    · rw [if_pos c, h3 p ha c.2]
    · rw [if_neg c]
      exact Cov.says h4 p (by omega) hb

theorem RiseN.low {l : List (Nat × Nat × Nat)} {a b : Nat} (h : RiseN a l) (hb : b ≤ a) : RiseN b l := by
  cases l with
  | nil => trivial
  | cons x l => exact ⟨Nat.le_trans hb h.1, h.2⟩
theorem nz_cons (x : Nat × Nat × Nat) (l : List (Nat × Nat × Nat)) : nz (x :: l) = if x.2.2 = 0 then nz l else x :: nz l := by
  unfold nz
  by_cases h : x.2.2 = 0 <;> simp [h]
theorem Til.nz_rise {say : Nat → Nat} {hi : Nat} (hh : hi ≤ 1114112) (hs : ∀ p, p < hi → say p ≤ 65535) : ∀ {l : List (Nat × Nat × Nat)} {low : Nat}, Til say hi low l → RiseN low (nz l)
  | [], low, h => trivial
  | x :: l, low, h => by
    obtain ⟨h1, h2, h3, _, h5⟩ := h
    have hle := h5.le
    have ih := Til.nz_rise hh hs h5
    rw [nz_cons]
    split
    · exact ih.low (by omega)
    · refine ⟨by omega, by omega, by omega, ?_, ih⟩
      rw [← h3 low (Nat.le_refl _) h2]
      exact hs low (by omega)
theorem Til.nz_says {say : Nat → Nat} {hi : Nat} (hh : hi ≤ 1114112) (hs : ∀ p, p < hi → say p ≤ 65535) : ∀ {l : List (Nat × Nat × Nat)} {low : Nat}, Til say hi low l → ∀ p, low ≤ p → p < hi → sayQ (nz l) p = say p
  | [], low, h, p, ha, hb => by have : low = hi := h; omega
  | x :: l, low, h, p, ha, hb => by
    obtain ⟨h1, h2, h3, _, h5⟩ := h
    rw [nz_cons]
    by_cases c : p ≤ x.2.1
    · rw [h3 p ha c]
      split
      · rename_i e
        unfold sayQ
        rw [sayR_low (Til.nz_rise hh hs h5) (by omega), e]
        rfl
      · unfold sayQ
        rw [sayR_cons, if_pos (by omega)]
        rfl
    · have ih := Til.nz_says hh hs h5 p (by omega) hb
      split
      · exact ih
      · unfold sayQ at ih ⊢
        rw [sayR_cons, if_neg (by omega)]
        exact ih

/-- A stretch of one number, with later rows laid over it. -/
def cutN : List (Nat × Nat × Nat) → Nat → Nat → Nat → List (Nat × Nat × Nat) → List (Nat × Nat × Nat)
  | [], fr, t, n, out => if fr ≤ t then out ++ [(fr, t, n)] else out
  | y :: l, fr, t, n, out => if y.2.1 < fr ∨ t < y.1 then cutN l fr t n out else
      if fr < y.1 then cutN l (min y.2.1 t + 1) t n (out ++ [(fr, y.1 - 1, n)] ++ [(y.1, min y.2.1 t, y.2.2)]) else cutN l (min y.2.1 t + 1) t n (out ++ [(fr, min y.2.1 t, y.2.2)])

theorem cutN_cov {S : Nat → Nat} {t n a : Nat} : ∀ (l out : List (Nat × Nat × Nat)) (fr low : Nat), RiseN low l → (∀ p, fr ≤ p → p ≤ t → S p = (sayR l p).getD n) → fr ≤ t + 1 → (fr ≤ t ∨ t < low) → Cov S fr a out → Cov S (t + 1) a (cutN l fr t n out)
  | [], out, fr, low, hr, hs, hf, hq, hc => by
    unfold cutN
    split
    · exact hc.snoc ‹_› (fun p ha hb => hs p ha hb)
    · rw [show t + 1 = fr by omega]; exact hc
  | y :: l, out, fr, low, hr, hs, hf, hq, hc => by
    obtain ⟨r1, r2, r3, r4, r5⟩ := hr
    unfold cutN
    split
    · rename_i c
      refine cutN_cov l out fr _ r5 (fun p ha hb => ?_) hf (by omega) hc
      rw [hs p ha hb, sayR_cons, if_neg (by omega)]
    · rename_i c
      have hm : min y.2.1 t ≤ y.2.1 := Nat.min_le_left _ _
      have hm2 : min y.2.1 t ≤ t := Nat.min_le_right _ _
      have hm3 : fr ≤ min y.2.1 t ∨ fr = t + 1 := by omega
      have hin : ∀ p, y.1 ≤ p → fr ≤ p → p ≤ min y.2.1 t → S p = y.2.2 := fun p h1 h2 h3 => by
        rw [hs p h2 (by omega), sayR_cons, if_pos (by omega)]; rfl
      have hnext : ∀ p, min y.2.1 t + 1 ≤ p → p ≤ t → S p = (sayR l p).getD n := fun p h1 h2 => by
        rw [hs p (by omega) h2, sayR_cons, if_neg (by omega)]
      split
      · rename_i c2
        refine cutN_cov l _ _ _ r5 hnext (by omega) (by omega) (Cov.snoc ?_ (by omega) (fun p h1 h2 => hin p h1 (by omega) h2))
        have := Cov.snoc (b := y.1 - 1) (n := n) hc (by omega) (fun p h1 h2 => by
          rw [hs p h1 (by omega), sayR_cons, if_neg (by omega), sayR_low r5 (by omega)]; rfl)
        rwa [show y.1 - 1 + 1 = y.1 by omega] at this
      · rename_i c2
        exact cutN_cov l _ _ _ r5 hnext (by omega) (by omega) (Cov.snoc hc (by omega) (fun p h1 h2 => hin p (by omega) h1 h2))

/-- One stretch of the first rows, gone over with all stretches of the later ones. -/
def overI (later : List (Nat × Nat × Nat)) (x : Nat × Nat × Nat) : List (Nat × Nat × Nat) → List (Nat × Nat × Nat) → List (Nat × Nat × Nat)
  | [], out => out
  | y :: l, out => overI later x l (if max x.1 y.1 ≤ min x.2.1 y.2.1 then out ++ cutN later (max x.1 y.1) (min x.2.1 y.2.1) x.2.2 [] else out)
def overO (later b : List (Nat × Nat × Nat)) : List (Nat × Nat × Nat) → List (Nat × Nat × Nat) → List (Nat × Nat × Nat)
  | [], out => out
  | x :: l, out => overO later b l (overI later x b out)

theorem overI_cov {later : List (Nat × Nat × Nat)} {say' S : Nat → Nat} {x : Nat × Nat × Nat} (hr : RiseN 0 later) (hx : x.1 ≤ x.2.1) (hx2 : x.2.1 < 1114112) (hs : ∀ p, x.1 ≤ p → p ≤ x.2.1 → S p = (sayR later p).getD x.2.2) :
    ∀ (l out : List (Nat × Nat × Nat)) (low : Nat), Til say' 1114112 low l → Cov S (max x.1 (min low (x.2.1 + 1))) 0 out → Cov S (x.2.1 + 1) 0 (overI later x l out)
  | [], out, low, ht, hc => by
    obtain rfl : low = 1114112 := ht
    unfold overI
    rw [show x.2.1 + 1 = max x.1 (min 1114112 (x.2.1 + 1)) by omega]
    exact hc
  | y :: l, out, low, ht, hc => by
    obtain ⟨h1, h2, _, _, h5⟩ := ht
    unfold overI
    refine overI_cov hr hx hx2 hs l _ _ h5 ?_
    split
    · rename_i c
      have hcut := cutN_cov (S := S) (t := min x.2.1 y.2.1) (n := x.2.2) (a := max x.1 y.1) later [] (max x.1 y.1) 0 hr (fun p ha hb => hs p (by omega) (by omega)) (by omega) (.inl c) rfl
      have e1 : max x.1 (min low (x.2.1 + 1)) = max x.1 y.1 := by omega
      rw [e1] at hc
      rw [show max x.1 (min (y.2.1 + 1) (x.2.1 + 1)) = min x.2.1 y.2.1 + 1 by omega]
      exact Cov.append hcut hc
    · rename_i c
      rw [show max x.1 (min (y.2.1 + 1) (x.2.1 + 1)) = max x.1 (min low (x.2.1 + 1)) by omega]
      exact hc
theorem overO_cov {later b : List (Nat × Nat × Nat)} {say say' S : Nat → Nat} (hr : RiseN 0 later) (hb : Til say' 1114112 0 b) (hs : ∀ p, p < 1114112 → S p = (sayR later p).getD (say p)) :
    ∀ (l out : List (Nat × Nat × Nat)) (low : Nat), Til say 1114112 low l → Cov S low 0 out → Cov S 1114112 0 (overO later b l out)
  | [], out, low, ht, hc => by
    obtain rfl : low = 1114112 := ht
    exact hc
  | x :: l, out, low, ht, hc => by
    obtain ⟨h1, h2, h3, _, h5⟩ := ht
    have hle := h5.le
    unfold overO
    refine overO_cov hr hb hs l _ _ h5 (overI_cov hr (by omega) (by omega) (fun p ha hb => ?_) b out 0 hb ?_)
    · rw [hs p (by omega), h3 p (by omega) hb]
    · rw [show max x.1 (min 0 (x.2.1 + 1)) = low by omega]
      exact hc

/-- What comes of it. -/
def overN (r later : List (Nat × Nat × Nat)) : List (Nat × Nat × Nat) := overO later (runsN [] 0 later) (runsN [] 0 r) []
theorem overN_cov {r later : List (Nat × Nat × Nat)} (h1 : RiseN 0 r) (h2 : RiseN 0 later) : Cov (overSay later (sayQ r)) 1114112 0 (overN r later) :=
  overO_cov h2 (runsN_ok h2) (fun p _ => rfl) _ _ 0 (runsN_ok h1) rfl
theorem sayQ_le {q : List (Nat × Nat × Nat)} {low : Nat} (h : RiseN low q) (p : Nat) : sayQ q p ≤ 65535 := by
  unfold sayQ
  cases e : sayR q p with
  | none => exact Nat.zero_le _
  | some n => exact (sayR_le h e).1
theorem overN_rise {r later : List (Nat × Nat × Nat)} (h1 : RiseN 0 r) (h2 : RiseN 0 later) : RiseN 0 (overN r later) :=
  Cov.rise (Nat.le_refl _) (fun p _ => by
    unfold overSay
    cases e : sayR later p with
    | none => exact sayQ_le h1 p
    | some n => exact (sayR_le h2 e).1) (overN_cov h1 h2)
/-- The document's Over. -/
def bothN (r later : List (Nat × Nat × Nat)) : List (Nat × Nat × Nat) := nz (runsN [] 0 (overN r later))
theorem bothN_rise {r later : List (Nat × Nat × Nat)} (h1 : RiseN 0 r) (h2 : RiseN 0 later) : RiseN 0 (bothN r later) :=
  Til.nz_rise (Nat.le_refl _) (fun p _ => sayQ_le (overN_rise h1 h2) p) (runsN_ok (overN_rise h1 h2))
theorem bothN_says {r later : List (Nat × Nat × Nat)} (h1 : RiseN 0 r) (h2 : RiseN 0 later) (p : Nat) (hp : p < 1114112) : sayQ (bothN r later) p = overSay later (sayQ r) p := by
  have e1 := Til.nz_says (Nat.le_refl _) (fun p _ => sayQ_le (overN_rise h1 h2) p) (runsN_ok (overN_rise h1 h2)) p (Nat.zero_le _) hp
  refine e1.trans ?_
  have := (overN_cov h1 h2).says p (Nat.zero_le _) hp
  show (sayR (overN r later) p).getD 0 = _
  rw [this]
  rfl

end Go.Proofs.Ytajmbafljncjcaa.Stage
