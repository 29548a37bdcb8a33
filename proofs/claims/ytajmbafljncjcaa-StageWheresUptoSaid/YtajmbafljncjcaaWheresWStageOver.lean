/- StageWheres: the law's walk. -/
import Derived.Test.YtajmbafljncjcaaWhrDStageOver
import Derived.Test.YtajmbafljncjcaaWhrC
import Derived.Test.YtajmbafljncjcaaLTwoStageOver
import Derived.Test.YtajmbafljncjcaaRowSpnStageOver
import Derived.Deep.DeepCutAuto
import Derived.BigQuiet
namespace Go.Proofs.Ytajmbafljncjcaa.PStageOver
open Go.RowKit Go.Proofs.YtajmbafljncjcaaW.PrintWords Go.Proofs.YtajmbafljncjcaaW.PrintLast Go.Proofs.YtajmbafljncjcaaW.PrintMore Go.Proofs.Ytajmbafljncjcaa.Stage Go.Proofs.Ytajmbafljncjcaa.Mp
set_option linter.unusedVariables false
set_option linter.unusedSimpArgs false

def endLow : Int → List (Int × Int) → Int
  | low, [] => low
  | low, y :: l => endLow (y.2 + 2) l
theorem endLow_snoc (x : Int × Int) : ∀ (l : List (Int × Int)) (low : Int), endLow low (l ++ [x]) = x.2 + 2
  | [], low => rfl
  | y :: l, low => endLow_snoc x l (y.2 + 2)
theorem setFrom_snoc (x : Int × Int) : ∀ (l : List (Int × Int)) (low : Int), setFrom low (l ++ [x]) = (setFrom low l && (mayI x && decide (endLow low l ≤ x.1)))
  | [], low => by
    show ((mayI x && decide (low ≤ x.1)) && true) = (true && (mayI x && decide (low ≤ x.1)))
    rw [Bool.and_true, Bool.true_and]
  | y :: l, low => by
    show ((mayI y && decide (low ≤ y.1)) && setFrom (y.2 + 2) (l ++ [x])) = (((mayI y && decide (low ≤ y.1)) && setFrom (y.2 + 2) l) && (mayI x && decide (endLow (y.2 + 2) l ≤ x.1)))
    rw [setFrom_snoc x l (y.2 + 2)]
    exact (Bool.and_assoc _ _ _).symm
theorem take_I (l : List (Int × Int)) (i : Nat) (h : i < l.length) : l.take (i + 1) = l.take i ++ [l.getD i (0, 0)] := by
  simp only [List.getD_eq_getElem?_getD, List.getElem?_eq_getElem h, Option.getD_some]
  exact List.take_succ_eq_append_getElem h
theorem set_step (l : List (Int × Int)) (i : Nat) (h : i < l.length) : setFrom 0 (l.take (i + 1)) = (setFrom 0 (l.take i) && (mayI (l.getD i (0, 0)) && decide (lowAt l i ≤ (l.getD i (0, 0)).1))) := by
  rw [take_I l i h, setFrom_snoc]
  have e : endLow 0 (l.take i) = lowAt l i := by
    cases i with
    | zero => rfl
    | succ j =>
      rw [take_I l j (by omega), endLow_snoc]
      rfl
  rw [e]
theorem set_prev (l : List (Int × Int)) (j : Nat) (h : j + 1 < l.length) (hs : setFrom 0 (l.take (j + 1)) = true) : (l.getD j (0, 0)).2 ≤ 1114111 := by
  rw [set_step l j (by omega)] at hs
  simp only [Bool.and_eq_true] at hs
  have : 0 ≤ (l.getD j (0, 0)).1 ∧ (l.getD j (0, 0)).1 ≤ (l.getD j (0, 0)).2 ∧ (l.getD j (0, 0)).2 ≤ 1114111 := of_decide_eq_true hs.2.1
  exact this.2.2
def rowsJ (l : List (Int × Int)) : List S30 := l.map fun x => ⟨x.1, x.2, 1⟩
theorem rowsJ_set {l : List (Int × Int)} (h : isSet l = true) : rowsJ l = (rowsS l).map toS := by
  unfold rowsJ rowsS
  rw [List.map_map]
  apply List.map_congr_left
  intro x hx
  obtain ⟨i, hi, rfl⟩ := List.getElem_of_mem hx
  have := (isSet_get h hi).1
  rw [List.getD_eq_getElem?_getD, List.getElem?_eq_getElem hi, Option.getD_some] at this
  show S30.mk _ _ _ = S30.mk _ _ _
  rw [show ((l[i].1.toNat : Nat) : Int) = l[i].1 by omega, show ((l[i].2.toNat : Nat) : Int) = l[i].2 by omega]
  rfl
theorem rowsJ_step (l : List (Int × Int)) (i : Nat) (h : i < l.length) : rowsJ (l.take (i + 1)) = rowsJ (l.take i) ++ [⟨(l.getD i (0, 0)).1, (l.getD i (0, 0)).2, 1⟩] := by
  unfold rowsJ
  rw [take_I l i h, List.map_append]
  rfl

theorem tabSays_congrW {w : World} {b : Nat} {s1 s2 : Nat → Nat} (h : TabSays w b s1) (he : ∀ p, p < 1114112 → s2 p = s1 p) : TabSays w b s2 := by
  obtain ⟨g, c, g', c', h⟩ := h
  exact ⟨g, c, g', c', by rw [tabSay_congr he]; exact h⟩
set_option maxRecDepth 100000 in
set_option maxHeartbeats 3200000 in
theorem wheresw_calls (w : World) (As : Option Addr) (cs : Nat) (xs : List (Int × Int)) (hS : SpI w As xs) (hfs : FitI xs) (hxl : xs.length ≤ 1048576)
    (A0 : Option Addr) (c0 : Nat) (l : List S40) (hC : Kd.C k40 w A0 l.length l) (hc0 : l.length ≤ c0) (hf : Fits l) (hl : l.length ≤ 1048576)
    (B0 : Option Addr) (d0 : Nat) (m : List S40) (hD : Kd.C k40 w B0 m.length m) (hd0 : m.length ≤ d0) (hmf : Fits m) (hm : m.length ≤ 1048576) :
    Calls Try.prog 11 #[.slice As xs.length cs, .slice A0 l.length c0, .slice B0 m.length d0] w (Yes w) := by
  have HTW := Aside0.mk (ltwo_calls w A0 c0 l hC hc0 hf hl B0 d0 m hD hd0 hmf hm)
  have HS := Aside0.mk hS
  have HFI := Aside0.mk hfs
  have infoQ' := infoQ
  clear hC hf hD hmf hS hfs
  go_enter Try.func11, Try.ntmps11
  go_wp2_with fail
  refine HTW.out.mono ?_
  rintro e w1 ⟨hb1, va, vb, qa, qb, Aa, Ab, na, ca, nb, cb, rfl, hTa, hTb⟩
  have HB1 := Aside0.mk hb1
  have HTA := Aside0.mk hTa
  have HTB := Aside0.mk hTb
  have HA := Aside0.mk (awake_calls w1)
  clear hb1 hTa hTb HTW
  go_wp2_with fail
  refine HA.out.mono ?_
  rintro e w2 ⟨rfl, hb2⟩
  have HB2 := Aside0.mk (HB1.out.trans (hb2.mono HB1.out.size))
  have HTA2 := Aside0.mk (HTA.out.below hb2)
  have HTB2 := Aside0.mk (HTB.out.below hb2)
  clear hb2 HB1 HTA HTB HA
  go_wp2_with fail
  go_loopg [12, 13, 35] (xs.length + 1) (fun k v12 v13 v35 wr => ∃ i : Nat, i ≤ xs.length ∧ xs.length + 1 - i ≤ k ∧ v35 = .int .i64 (i : Int) ∧ v12 = .bool (setFrom 0 (xs.take i)) ∧ Aside0 (Kd.R k30 30 wr w2.heap.size (fun _ => True) v13 (rowsJ (xs.take i))) ∧ Aside0 (Below w2.heap.size w2 wr))
  case atStart => exact ⟨0, by omega, by omega, rfl, rfl, ⟨Kd.R_nil _ _ _ _ _⟩, ⟨Below.refl _ _⟩⟩
  case round =>
    obtain ⟨i, hi, hk, rfl, rfl, hO, hB⟩ := hrel
    by_cases hlt : i < xs.length
    · have hlt' : (i : Int) < (xs.length : Int) := by omega
      obtain ⟨wo, rfl⟩ : ∃ x, x = wr := ⟨_, rfl⟩
      have HSW := Aside0.mk (HS.out.below (HB2.out.trans (hB.out.mono HB2.out.size)))
      obtain ⟨ad, rfl, k0, k1⟩ := HSW.out i hlt
      have hfit := HFI.out i hlt
      have HSTEP := Aside0.mk (set_step xs i hlt)
      have HROWS := Aside0.mk (rowsJ_step xs i hlt)
      have hpr : i = 0 ∨ ∃ j, i = j + 1 := by cases i with | zero => exact .inl rfl | succ j => exact .inr ⟨j, rfl⟩
      have HPR := Aside0.mk hpr
      have hrl : (rowsJ (xs.take i)).length ≤ 1048576 := by unfold rowsJ; rw [List.length_map, List.length_take]; omega
      clear hpr
      generalize hx : xs.getD i (0, 0) = x at k0 k1 hfit HSTEP HROWS
      obtain ⟨x0, x1⟩ := x
      simp only at k0 k1 hfit
      obtain ⟨⟨f0, f1⟩, f2, f3⟩ := hfit
      have HX := Aside0.mk hx
      have HO3 := Aside0.mk (Kd.R_alloc hO.out (.cells #[.int .i32 x0, .int .i32 x1] 47))
      have HB3 := Aside0.mk (below_alloc hB.out (.cells #[.int .i32 x0, .int .i32 x1] 47))
      have HBX := Aside0.mk (blk_new wo [.int .i32 x0, .int .i32 x1] 47)
      have HSX := Aside0.mk (HSW.out.below (below_alloc (Below.refl _ _) (.cells #[.int .i32 x0, .int .i32 x1] 47)))
      clear hx hO hB HSW
      go_upto_region 9 with fail
      generalize hq : wo.alloc (.cells #[.int .i32 x0, .int .i32 x1] 47) = wq at *
      generalize wo.heap.size = gx at *
      have q0 := HBX.out.cell 0
      have q1 := HBX.out.cell 1
      rw [List.getElem?_cons_zero] at q0
      rw [List.getElem?_cons_succ, List.getElem?_cons_zero] at q1
      clear hq
      go_cut [12, 35] from 35 to 84 (fun v12 v35 wx => v12 = .bool (setFrom 0 (xs.take (i + 1))) ∧ v35 = .int .i64 (i : Int) ∧ ∃ nq, wx = wq.drewN nq)
      case first =>
        have HS3 := HSTEP
        cases hs : setFrom 0 (xs.take i) with
        | false =>
          rw [hs] at HS3
          go_quiet (fail)
          go_wp2_with fail
          go_meet
          exact ⟨by rw [HS3.out, Bool.false_and], rfl, _, rfl⟩
        | true =>
          rw [hs] at HS3
          have hmay : mayI (x0, x1) = decide (0 ≤ x0 ∧ x0 ≤ x1 ∧ x1 ≤ 1114111) := rfl
          rw [Bool.true_and, hmay] at HS3
          clear hmay
          by_cases h0 : 0 ≤ x0
          · have d0 : decide (x0 ≥ 0) = true := decide_eq_true h0
            by_cases h1 : x0 ≤ x1
            · have d1 : decide (x0 ≤ x1) = true := decide_eq_true h1
              by_cases h2 : x1 ≤ 1114111
              · have d2 : decide (x1 ≤ 1114111) = true := decide_eq_true h2
                have HM := HS3
                rw [decide_eq_true (show 0 ≤ x0 ∧ x0 ≤ x1 ∧ x1 ≤ 1114111 from ⟨h0, h1, h2⟩), Bool.true_and] at HM
                rcases HPR.out with rfl | ⟨j, rfl⟩
                · have hz : decide (lowAt xs 0 ≤ x0) = true := decide_eq_true h0
                  rw [hz] at HM
                  go_quiet (fail)
                  go_wp2_with fail
                  go_meet
                  exact ⟨by rw [HM.out], rfl, _, rfl⟩
                · obtain ⟨ad', e', k0', k1'⟩ := HSX.out j (by omega)
                  cases e'
                  have hpv := set_prev xs j hlt hs
                  have hfj := (HFI.out j (by omega)).2
                  have hlz : lowAt xs (j + 1) = (xs.getD j (0, 0)).2 + 2 := by
                    unfold lowAt
                    rw [if_neg (by omega), Nat.add_sub_cancel]
                  rw [hlz] at HM
                  clear hlz hs k0'
                  generalize (xs.getD j (0, 0)).2 = pv at k1' HM hpv hfj
                  have hjj : ((j : Int) + 1) - 1 = (j : Int) := by omega
                  have hjl : (j : Int) < (xs.length : Int) := by omega
                  have hj0 : (0 : Int) ≤ (j : Int) := by omega
                  have hwj : IntKind.i64.wrap (j : Int) = (j : Int) := IntWalk.i64_in _ (by omega)
                  have hwp : IntKind.i32.wrap (pv + 1) = pv + 1 := IntWalk.i32_in _ (by omega)
                  have hj1 : ((j : Int) + 1 == 0) = false := beq_eq_false_iff_ne.mpr (by omega)
                  by_cases h4 : pv + 2 ≤ x0
                  · have d4 : decide (pv + 1 < x0) = true := decide_eq_true (by omega)
                    rw [decide_eq_true h4] at HM
                    go_quiet (fail)
                    go_wp2_with fail
                    go_meet
                    exact ⟨by rw [HM.out], rfl, _, rfl⟩
                  · have d4 : decide (pv + 1 < x0) = false := decide_eq_false (by omega)
                    rw [decide_eq_false h4] at HM
                    go_quiet (fail)
                    go_wp2_with fail
                    go_meet
                    exact ⟨by rw [HM.out], rfl, _, rfl⟩
              · have d2 : decide (x1 ≤ 1114111) = false := decide_eq_false h2
                rw [decide_eq_false (show ¬ (0 ≤ x0 ∧ x0 ≤ x1 ∧ x1 ≤ 1114111) by omega)] at HS3
                go_quiet (fail)
                go_wp2_with fail
                go_meet
                exact ⟨by rw [HS3.out, Bool.false_and], rfl, _, rfl⟩
            · have d1 : decide (x0 ≤ x1) = false := decide_eq_false h1
              rw [decide_eq_false (show ¬ (0 ≤ x0 ∧ x0 ≤ x1 ∧ x1 ≤ 1114111) by omega)] at HS3
              go_quiet (fail)
              go_wp2_with fail
              go_meet
              exact ⟨by rw [HS3.out, Bool.false_and], rfl, _, rfl⟩
          · have d0 : decide (x0 ≥ 0) = false := decide_eq_false h0
            rw [decide_eq_false (show ¬ (0 ≤ x0 ∧ x0 ≤ x1 ∧ x1 ≤ 1114111) by omega)] at HS3
            go_quiet (fail)
            go_wp2_with fail
            go_meet
            exact ⟨by rw [HS3.out, Bool.false_and], rfl, _, rfl⟩
      case rest =>
        obtain ⟨rfl, rfl, nq, rfl⟩ := hcut
        have HO4 := Aside0.mk (Kd.R_drewN HO3.out nq)
        have HB4 := Aside0.mk (pw_below_drewN HB3.out nq)
        have p0 : (wq.drewN nq).cell? ⟨gx, 0, none⟩ = some (.int .i32 x0) := q0
        have p1 : (wq.drewN nq).cell? ⟨gx, 1, none⟩ = some (.int .i32 x1) := q1
        have e0 : IntKind.i64.wrap x0 = x0 := IntWalk.i64_in _ (by omega)
        have e1 : IntKind.i64.wrap x1 = x1 := IntWalk.i64_in _ (by omega)
        clear q0 q1 k0 k1 HO3 HB3 HBX HSX HX HPR HSTEP
        generalize wq.drewN nq = w7 at *
        generalize rowsJ (xs.take i) = rs at HO4 HROWS hrl
        go_wp2_with (first | ((with_reducible refine gate_builtin (b := .append) (xs := #[.tmp 74, .tmp 82]) rfl ?_); at_builtin; refine Kd.R_append k30 (w0 := w2) w2.heap.size rfl (.tmp 74) (.tmp 82) 24 30 (.agg #[.int .i64 0, .int .i64 0, .int .i64 0]) 24 rfl Try.underlying24 infoQ' rfl (by decide) (by omega) _ rs ⟨x0, x1, 1⟩ [.int .i64 x0, .int .i64 x1, .int .i64 1] (fun _ => True) (fun _ => False) rfl (by first | (go_simp; done) | (go_simp; rfl)) (k30_mkM _ _ _ ⟨x0, x1, 1⟩) (fun _ hk => hk.elim) (fun _ _ => trivial) HO4.out HB4.out HB4.out.size (by omega) ?_; intro v5 w5 ho5 hb5 hg5 hat5; have HO5 := Aside0.mk ho5; have HB5 := Aside0.mk hb5; clear ho5 hb5 hg5 hat5))
        go_roundg (gk - 1)
        case measure => omega
        case rel => exact ⟨i + 1, by omega, by omega, by go_num, rfl, ⟨by rw [HROWS.out]; exact HO5.out⟩, HB5⟩
    · have hlt' : ¬ (i : Int) < (xs.length : Int) := by omega
      obtain rfl : i = xs.length := by omega
      have hOut := hO.out
      rw [List.take_of_length_le (Nat.le_refl _)] at hOut
      obtain ⟨A5, c5, rfl, hc5, hC5⟩ := Kd.R_reads hOut
      have hj : (rowsJ xs).length = xs.length := List.length_map ..
      rw [List.take_of_length_le (Nat.le_refl _)]
      rw [hj] at hc5 hC5 ⊢
      obtain ⟨w3, rfl⟩ : ∃ x, x = wr := ⟨_, rfl⟩
      have HTA3 := Aside0.mk (HTA2.out.below hB.out)
      have HTB3 := Aside0.mk (HTB2.out.below hB.out)
      have HB3 := Aside0.mk (HB2.out.trans (hB.out.mono HB2.out.size))
      have HC5 := Aside0.mk hC5
      have HL5 := Aside0.mk hc5
      have HW := Aside0.mk (where_calls w3 As cs xs (HS.out.below HB3.out) (by omega) va vb (sayQ qa) (sayQ qb) HTA3.out.han HTB3.out.han (fun p _ => sayQ_le HTA3.out.rise p) (fun p _ => sayQ_le HTB3.out.rise p))
      clear hOut hc5 hC5 hO hB hj HTA2 HTB2 HB2
      go_wp2_with fail
      refine HW.out.mono ?_
      rintro e w4 ⟨hb4, hcase⟩
      have HB4 := Aside0.mk (HB3.out.trans (hb4.mono HB3.out.size))
      have HTA4 := Aside0.mk (HTA3.out.below hb4)
      have HTB4 := Aside0.mk (HTB3.out.below hb4)
      have HC6 := Aside0.mk (Kd.C_below HC5.out hb4)
      have hset : isSet xs = (setFrom 0 xs && decide (xs.length ≤ 65536)) := rfl
      clear hb4 HW HC5 HTA3 HTB3 HB3
      rcases hcase with ⟨hno, rfl⟩ | ⟨hyes, b, rfl, hu⟩
      · have hx : setFrom 0 xs = false ∨ (setFrom 0 xs = true ∧ 65536 < xs.length) := by
          rw [hset] at hno
          cases h : setFrom 0 xs with
          | false => exact .inl rfl
          | true =>
            rw [h, Bool.true_and] at hno
            exact .inr ⟨rfl, by have := of_decide_eq_false hno; omega⟩
        clear hno hset
        rcases hx with hx | ⟨hx, hy⟩
        · rw [hx]
          go_wp2
          go_ret
          exact ⟨rfl, HB4.out⟩
        · have hy' : (65536 : Int) < (xs.length : Int) := by omega
          rw [hx]
          go_wp2
          go_ret
          exact ⟨rfl, HB4.out⟩
      · have HYES := Aside0.mk hyes
        rw [hset, Bool.and_eq_true, decide_eq_true_eq] at hyes
        obtain ⟨hx, hy⟩ := hyes
        have hy' : ¬ (65536 : Int) < (xs.length : Int) := by omega
        rw [hx]
        have hC7 := HC6.out
        rw [rowsJ_set HYES.out] at hC7
        have HWD := Aside0.mk (whered_calls w4 HTA4.out HTB4.out HYES.out hC7 (cs := c5))
        obtain ⟨o1, o2, o3, o4, o5, o6, o7⟩ := whereN_ok HYES.out HTA4.out.rise HTB4.out.rise
        have HU := Aside0.mk (tabSays_congrW hu o7)
        have HO5 := Aside0.mk o5
        have HO6 := Aside0.mk o6
        clear hset hC7 o1 o2 o3 o4 o5 o6 o7 hu HC6
        generalize whereN xs qa qb = N at *
        go_wp2_with fail
        refine HWD.out.mono ?_
        rintro e w5 ⟨hb5, A6, c6, rfl, hc6, hC6⟩
        have HB5 := Aside0.mk (HB4.out.trans (hb5.mono HB4.out.size))
        have HTA5 := Aside0.mk (HTA4.out.below hb5)
        have HTB5 := Aside0.mk (HTB4.out.below hb5)
        have HST := Aside0.mk ((show Tbl w5 (some ⟨b, 0, none⟩) N A6 N.length c6 from ⟨rfl, .inr ⟨b, rfl, HU.out.below hb5⟩, HO5.out, HO6.out, hc6, hC6⟩).stands0 1)
        clear hb5 hc6 hC6 HWD HB4 HTA4 HTB4
        go_wp2_with fail
        refine HST.out.mono ?_
        rintro e w6 ⟨rfl, hb6⟩
        have HB6 := Aside0.mk (HB5.out.trans (hb6.mono HB5.out.size))
        have HSA := Aside0.mk ((HTA5.out.below hb6).stands0 0)
        have HTB6 := Aside0.mk (HTB5.out.below hb6)
        clear hb6 HST HB5 HTA5 HTB5
        go_wp2_with fail
        refine HSA.out.mono ?_
        rintro e w7 ⟨rfl, hb7⟩
        have HB7 := Aside0.mk (HB6.out.trans (hb7.mono HB6.out.size))
        have HSB := Aside0.mk ((HTB6.out.below hb7).stands0 0)
        clear hb7 HSA HB6 HTB6
        go_wp2_with fail
        refine HSB.out.mono ?_
        rintro e w8 ⟨rfl, hb8⟩
        have HFIN := Aside0.mk (HB7.out.trans (hb8.mono HB7.out.size))
        clear hb8 HSB HB7
        go_wp2
        go_ret
        exact ⟨rfl, HFIN.out⟩

end Go.Proofs.Ytajmbafljncjcaa.PStageOver
