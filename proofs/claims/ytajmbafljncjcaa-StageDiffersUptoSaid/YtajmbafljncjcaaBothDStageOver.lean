/- The document's Both: its walk, by hand; and what it comes to. -/
import Derived.Test.YtajmbafljncjcaaRunsDStageOver
import Derived.Test.YtajmbafljncjcaaCntQStageOver
import Derived.Deep.DeepCutAuto
namespace Go.Proofs.Ytajmbafljncjcaa.PStageOver
open Go.RowKit Go.Proofs.YtajmbafljncjcaaW.PrintWords Go.Proofs.YtajmbafljncjcaaW.PrintLast Go.Proofs.YtajmbafljncjcaaW.PrintMore Go.Proofs.Ytajmbafljncjcaa.Stage Go.Proofs.Ytajmbafljncjcaa.Mp
set_option linter.unusedVariables false
set_option linter.unusedSimpArgs false

/-- How many code points two stretches have together. -/
def ovl (x y : Nat × Nat × Nat) : Nat := min x.2.1 y.2.1 + 1 - max x.1 y.1
def bothI (n m : Nat) (x : Nat × Nat × Nat) : List (Nat × Nat × Nat) → Nat
  | [] => 0
  | y :: l => (if x.2.2 = n ∧ y.2.2 = m then ovl x y else 0) + bothI n m x l
def bothO (n m : Nat) (b : List (Nat × Nat × Nat)) : List (Nat × Nat × Nat) → Nat
  | [] => 0
  | x :: l => bothI n m x b + bothO n m b l
theorem bothI_append (n m : Nat) (x : Nat × Nat × Nat) (k : List (Nat × Nat × Nat)) : ∀ l : List (Nat × Nat × Nat), bothI n m x (l ++ k) = bothI n m x l + bothI n m x k
  | [] => by simp [bothI]
  | y :: l => by simp only [List.cons_append, bothI, bothI_append n m x k l]; omega
theorem bothO_append (n m : Nat) (b k : List (Nat × Nat × Nat)) : ∀ l : List (Nat × Nat × Nat), bothO n m b (l ++ k) = bothO n m b l + bothO n m b k
  | [] => by simp [bothO]
  | y :: l => by simp only [List.cons_append, bothO, bothO_append n m b k l]; omega
theorem bothO_take (n m : Nat) (b a : List (Nat × Nat × Nat)) (i : Nat) (h : i < a.length) : bothO n m b (a.take (i + 1)) = bothO n m b (a.take i) + bothI n m (a.getD i z3) b := by
  rw [take_q a i h, bothO_append]
  simp [bothO]
theorem bothI_take (n m : Nat) (x : Nat × Nat × Nat) (b : List (Nat × Nat × Nat)) (j : Nat) (h : j < b.length) : bothI n m x (b.take (j + 1)) = bothI n m x (b.take j) + (if x.2.2 = n ∧ (b.getD j z3).2.2 = m then ovl x (b.getD j z3) else 0) := by
  rw [take_q b j h, bothI_append]
  simp [bothI]
theorem both_mid (n m : Nat) (b a : List (Nat × Nat × Nat)) (i j : Nat) (h : i < a.length) : bothO n m b (a.take i) + bothI n m (a.getD i z3) (b.take j) ≤ bothO n m b a := by
  have h1 := bothO_append n m b (a.drop (i + 1)) (a.take (i + 1))
  rw [List.take_append_drop, bothO_take n m b a i h] at h1
  have h2 := bothI_append n m (a.getD i z3) (b.drop j) (b.take j)
  rw [List.take_append_drop] at h2
  omega
/-- The count of the pairs, over code points. -/
theorem bothI_til (n m : Nat) (x : Nat × Nat × Nat) {sb : Nat → Nat} : ∀ {l : List (Nat × Nat × Nat)} {low : Nat}, Til sb 1114112 low l → x.2.1 < 1114112 → bothI n m x l = if x.2.2 = n then cntQ (fun p => decide (sb p = m)) (max x.1 low) (x.2.1 + 1 - max x.1 low) else 0
  | [], low, h, hx => by
    obtain rfl : low = 1114112 := h
    rw [show x.2.1 + 1 - max x.1 1114112 = 0 by omega]
    simp [bothI, cntQ]
  | y :: l, low, h, hx => by
    obtain ⟨h1, h2, h3, h4, h5⟩ := h
    have hle := h5.le
    have ih := bothI_til n m x h5 hx
    simp only [bothI]
    rw [ih]
    by_cases hn : x.2.2 = n
    · rw [if_pos hn, if_pos hn]
      have hc : cntQ (fun p => decide (sb p = m)) (max x.1 low) (min x.2.1 y.2.1 + 1 - max x.1 low) = if y.2.2 = m then min x.2.1 y.2.1 + 1 - max x.1 low else 0 := by
        rw [cntQ_const (fun p => decide (sb p = m)) (decide (y.2.2 = m)) _ _ (fun p ha hb => by show decide (sb p = m) = _; rw [h3 p (by omega) (by omega)])]
        by_cases e : y.2.2 = m
        · simp [e]
        · simp [e]
      have ho : ovl x y = min x.2.1 y.2.1 + 1 - max x.1 low := by unfold ovl; rw [h1]
      rw [ho]
      have hsum := cntQ_add (fun p => decide (sb p = m)) (x.2.1 + 1 - max x.1 (y.2.1 + 1)) (min x.2.1 y.2.1 + 1 - max x.1 low) (max x.1 low)
      rw [hc] at hsum
      by_cases hcase : max x.1 low ≤ min x.2.1 y.2.1
      · by_cases hend : y.2.1 + 1 ≤ x.2.1
        · rw [show min x.2.1 y.2.1 + 1 - max x.1 low + (x.2.1 + 1 - max x.1 (y.2.1 + 1)) = x.2.1 + 1 - max x.1 low by omega, show max x.1 low + (min x.2.1 y.2.1 + 1 - max x.1 low) = max x.1 (y.2.1 + 1) by omega] at hsum
          rw [hsum]
          simp [hn]
        · rw [show x.2.1 + 1 - max x.1 (y.2.1 + 1) = 0 by omega] at hsum ⊢
          rw [show min x.2.1 y.2.1 + 1 - max x.1 low + 0 = x.2.1 + 1 - max x.1 low by omega] at hsum
          rw [hsum]
          simp [hn, cntQ]
      · rw [show min x.2.1 y.2.1 + 1 - max x.1 low = 0 by omega]
        by_cases hx1 : x.1 ≤ x.2.1
        · by_cases hlow : low ≤ x.2.1
          · rw [show max x.1 (y.2.1 + 1) = max x.1 low by omega]
            simp
          · rw [show x.2.1 + 1 - max x.1 (y.2.1 + 1) = 0 by omega, show x.2.1 + 1 - max x.1 low = 0 by omega]
            simp [cntQ]
        · rw [show x.2.1 + 1 - max x.1 (y.2.1 + 1) = 0 by omega, show x.2.1 + 1 - max x.1 low = 0 by omega]
          simp [cntQ]
    · rw [if_neg hn, if_neg hn, if_neg (fun h => hn h.1)]
theorem bothO_til (n m : Nat) {sa sb : Nat → Nat} {b : List (Nat × Nat × Nat)} (hb : Til sb 1114112 0 b) : ∀ {l : List (Nat × Nat × Nat)} {low : Nat}, Til sa 1114112 low l → bothO n m b l = cntQ (fun p => decide (sa p = n) && decide (sb p = m)) low (1114112 - low)
  | [], low, h => by
    obtain rfl : low = 1114112 := h
    rfl
  | x :: l, low, h => by
    obtain ⟨h1, h2, h3, h4, h5⟩ := h
    have hle := h5.le
    have ih := bothO_til n m hb h5
    simp only [bothO]
    rw [ih, bothI_til n m x hb (by omega), show 1114112 - low = (x.2.1 + 1 - low) + (1114112 - (x.2.1 + 1)) by omega, cntQ_add, show low + (x.2.1 + 1 - low) = x.2.1 + 1 by omega]
    congr 1
    rw [h1, show max low 0 = low by omega]
    by_cases hn : x.2.2 = n
    · rw [if_pos hn]
      exact cntQ_congr _ _ (fun p ha hb' => by rw [h3 p ha (by omega)]; simp [hn])
    · rw [if_neg hn, cntQ_const _ false _ _ (fun p ha hb' => by rw [h3 p ha (by omega)]; simp [hn])]
      rfl

set_option maxRecDepth 100000 in
set_option maxHeartbeats 3200000 in
theorem bothd_calls (w : World) {q later : List (Nat × Nat × Nat)} (hq : RiseN 0 q) (hk : RiseN 0 later) (hql : q.length ≤ 1114112) (hkl : later.length ≤ 1114112) {A A2 : Option Addr} {c c2 : Nat}
    (hC : Kd.C k30 w A q.length (q.map toS)) (hc : q.length ≤ c) (hC2 : Kd.C k30 w A2 later.length (later.map toS)) (hc2 : later.length ≤ c2) (n m : Nat) :
    Calls Try.prog 49 #[.slice A q.length c, .slice A2 later.length c2, .int .i64 (n : Int), .int .i64 (m : Int)] w fun e w' => e = .returned (.int .i64 (cntQ (fun p => decide (sayQ q p = n) && decide (sayQ later p = m)) 0 1114112 : Nat)) ∧ Below w.heap.size w w' := by
  have htil : Til (sayQ q) 1114112 0 (runsN [] 0 q) := runsN_ok hq
  have htilb : Til (sayQ later) 1114112 0 (runsN [] 0 later) := runsN_ok hk
  have hRal := htil.length
  have hRbl := htilb.length
  have hb := bothO_til n m htilb htil
  rw [Nat.sub_zero] at hb
  have htot : bothO n m (runsN [] 0 later) (runsN [] 0 q) ≤ 1114112 := by
    rw [hb]
    have := cntQ_not (fun p => decide (sayQ q p = n) && decide (sayQ later p = m)) 1114112 0
    omega
  generalize cntQ (fun p => decide (sayQ q p = n) && decide (sayQ later p = m)) 0 1114112 = TOT at *
  have HTOT := Aside0.mk hb
  have HMEM := Aside0.mk (fun i hi => by
    have := htil.mem ((runsN [] 0 q).getD i z3) (by rw [List.getD_eq_getElem?_getD, List.getElem?_eq_getElem hi]; exact List.getElem_mem hi)
    exact ⟨this.2.1, this.2.2.1⟩ : ∀ i, i < (runsN [] 0 q).length → ((runsN [] 0 q).getD i z3).1 ≤ ((runsN [] 0 q).getD i z3).2.1 ∧ ((runsN [] 0 q).getD i z3).2.1 < 1114112)
  have HQR := Aside0.mk hq
  have HKR := Aside0.mk hk
  have HQ := Aside0.mk hC
  have HK := Aside0.mk hC2
  have HRU := Aside0.mk (runs_at hq hql hC hc)
  clear hb htil htilb hq hk hC hC2
  go_enter Try.func49, Try.ntmps49
  go_wp2_with fail
  refine HRU.out.mono ?_
  rintro e w2 ⟨hb2, ga, ca, rfl, hga1, hga2, hcella⟩
  have HB2 := Aside0.mk hb2
  have HCA := Aside0.mk (fun (W : World) (i : Nat) (hi : i < (runsN [] 0 q).length) (hW : Below w2.heap.size w2 W) => hcella W i hi (hW.block ga hga2))
  have HRV := Aside0.mk (fun (W : World) (hW : Below w.heap.size w W) => runs_at HKR.out hkl (Kd.C_below HK.out hW) hc2)
  clear hb2 hcella HRU hga1 hga2
  generalize runsN [] 0 q = Ra at *
  generalize runsN [] 0 later = Rb at *
  go_wp2
  go_loopg [9, 19] (Ra.length + 1) (fun k v9 v19 wr => ∃ i : Nat, i ≤ Ra.length ∧ Ra.length + 1 - i ≤ k ∧ v19 = .int .i64 (i : Int) ∧ v9 = .int .i64 ((bothO n m Rb (Ra.take i) : Nat) : Int) ∧ Aside0 (Below w2.heap.size w2 wr))
  case atStart => exact ⟨0, by omega, by omega, rfl, rfl, ⟨Below.refl _ _⟩⟩
  case round =>
    obtain ⟨i, hi, hik, rfl, rfl, hB⟩ := hrel
    by_cases hlt : i < Ra.length
    · have hlt' : (i : Int) < (Ra.length : Int) := by omega
      obtain ⟨k0, k1, k2⟩ := HCA.out wr i hlt hB.out
      have hbig := HMEM.out i hlt
      have hst := bothO_take n m Rb Ra i hlt
      have hmid := fun j => both_mid n m Rb Ra i j hlt
      generalize Ra.getD i z3 = x at k0 k1 k2 hst hmid hbig
      obtain ⟨x0, x1, x2⟩ := x
      simp only at k0 k1 k2 hbig
      have HST := Aside0.mk hst
      have HMID := Aside0.mk hmid
      obtain ⟨gko, rfl⟩ : ∃ n, n = gk := ⟨_, rfl⟩
      obtain ⟨W4, rfl⟩ : ∃ x, x = wr := ⟨_, rfl⟩
      generalize bothO n m Rb (Ra.take i) = s0 at *
      have HBX := Aside0.mk (blk_new W4 [.int .i64 (x0 : Int), .int .i64 (x1 : Int), .int .i64 (x2 : Int)] 30)
      have HB7 := Aside0.mk (below_alloc hB.out (.cells #[.int .i64 (x0 : Int), .int .i64 (x1 : Int), .int .i64 (x2 : Int)] 30))
      have HRU := Aside0.mk (HRV.out _ (HB2.out.trans (HB7.out.mono HB2.out.size)))
      clear hst hmid hB
      go_wp2_with fail
      refine HRU.out.mono ?_
      rintro e w8 ⟨hb8, gb, cb, rfl, hgb1, hgb2, hcellb⟩
      have HB8 := Aside0.mk (HB7.out.trans (hb8.mono HB7.out.size))
      have HX8 := Aside0.mk (show Blk w8 W4.heap.size _ _ from (hb8.block _ HBX.out.lt).trans HBX.out)
      have HCB := Aside0.mk (fun (W : World) (i : Nat) (hi : i < Rb.length) (hW : Below w8.heap.size w8 W) => hcellb W i hi (hW.block gb hgb2))
      generalize hgx : W4.heap.size = gx at *
      clear hb8 hcellb HRU HBX HB7 k0 k1 k2 hgb1 hgb2 hgx
      go_wp2
      go_loopg [9, 26] (Rb.length + 1) (fun k v9 v26 wr => ∃ j : Nat, j ≤ Rb.length ∧ Rb.length + 1 - j ≤ k ∧ v26 = .int .i64 (j : Int) ∧ v9 = .int .i64 ((s0 + bothI n m (x0, x1, x2) (Rb.take j) : Nat) : Int) ∧ Aside0 (Below w8.heap.size w8 wr))
      case atStart => exact ⟨0, by omega, by omega, rfl, rfl, ⟨Below.refl _ _⟩⟩
      case round =>
        obtain ⟨j, hj, hjk, rfl, rfl, hB⟩ := hrel
        by_cases hlt2 : j < Rb.length
        · have hlt2' : (j : Int) < (Rb.length : Int) := by omega
          obtain ⟨c0, c1, c2'⟩ := HCB.out wr j hlt2 hB.out
          have hit := bothI_take n m (x0, x1, x2) Rb j hlt2
          have hml := HMID.out (j + 1)
          generalize Rb.getD j z3 = y at c0 c1 c2' hit
          obtain ⟨y0, y1, y2⟩ := y
          simp only at c0 c1 c2' hit
          have ho : ovl (x0, x1, x2) (y0, y1, y2) = min x1 y1 + 1 - max x0 y0 := rfl
          rw [ho] at hit
          rw [hit] at hml
          have HIT := Aside0.mk hit
          generalize bothI n m (x0, x1, x2) (Rb.take j) = s1 at *
          obtain ⟨wo, rfl⟩ : ∃ x, x = wr := ⟨_, rfl⟩
          have HBY := Aside0.mk (blk_new wo [.int .i64 (y0 : Int), .int .i64 (y1 : Int), .int .i64 (y2 : Int)] 30)
          have HBS := Aside0.mk (show Blk (wo.alloc (.cells #[.int .i64 (y0 : Int), .int .i64 (y1 : Int), .int .i64 (y2 : Int)] 30)) gx _ _ from ((show Blk wo gx _ _ from (hB.out.block _ HX8.out.lt).trans HX8.out).alloc (.cells #[.int .i64 (y0 : Int), .int .i64 (y1 : Int), .int .i64 (y2 : Int)] 30)))
          have HB3 := Aside0.mk (below_alloc hB.out (.cells #[.int .i64 (y0 : Int), .int .i64 (y1 : Int), .int .i64 (y2 : Int)] 30))
          clear hB hit
          obtain ⟨f, hf⟩ : ∃ f, f = max x0 y0 := ⟨_, rfl⟩
          obtain ⟨t, ht⟩ : ∃ t, t = min x1 y1 := ⟨_, rfl⟩
          rw [← hf, ← ht] at HIT hml
          have HF := Aside0.mk hf
          have HT := Aside0.mk ht
          clear hf ht ho
          have q0 := HBY.out.cell 0
          have q1 := HBY.out.cell 1
          have r0 := HBS.out.cell 0
          have r1 := HBS.out.cell 1
          rw [List.getElem?_cons_zero] at q0 r0
          rw [List.getElem?_cons_succ, List.getElem?_cons_zero] at q1 r1
          go_upto_region 8 with fail
          generalize hq : wo.alloc (.cells #[.int .i64 (y0 : Int), .int .i64 (y1 : Int), .int .i64 (y2 : Int)] 30) = wq at *
          generalize wo.heap.size = gy at *
          go_region
          have hdr : Below wq.heap.size wq wq.drew := ⟨rfl, rfl, rfl, Nat.le_refl _, fun _ _ => rfl⟩
          replace HB3 := Aside0.mk (HB3.out.trans (hdr.mono HB3.out.size))
          have r2 := HBS.out.cell 2
          have q2 := HBY.out.cell 2
          rw [List.getElem?_cons_succ, List.getElem?_cons_succ, List.getElem?_cons_zero] at r2 q2
          replace q0 : wq.drew.cell? _ = _ := q0
          replace q1 : wq.drew.cell? _ = _ := q1
          replace q2 : wq.drew.cell? _ = _ := q2
          replace r2 : wq.drew.cell? _ = _ := r2
          clear hq HBY HBS r0 r1 hdr
          generalize wq.drew = wc at *
          go_upto_if 37 with fail
          go_cut [14, 26] from 26 to 67 (fun v14 v26 wx => v14 = .int .i64 (f : Int) ∧ v26 = .int .i64 (j : Int) ∧ wc = wx)
          case first =>
            by_cases h1 : x0 < y0
            · have h1' : (x0 : Int) < (y0 : Int) := by omega
              obtain rfl : f = y0 := by have := HF.out; omega
              go_wp2_with fail
              go_meet
              exact ⟨rfl, rfl, rfl⟩
            · have h1' : ¬ (x0 : Int) < (y0 : Int) := by omega
              obtain rfl : f = x0 := by have := HF.out; omega
              go_wp2_with fail
              go_meet
              exact ⟨rfl, rfl, rfl⟩
          case rest =>
            obtain ⟨rfl, rfl, rfl⟩ := hcut
            go_upto_if 43 with fail
            go_cut [15, 26] from 26 to 67 (fun v15 v26 wx => v15 = .int .i64 (t : Int) ∧ v26 = .int .i64 (j : Int) ∧ wc = wx)
            case first =>
              by_cases h1 : y1 < x1
              · have h1' : (y1 : Int) < (x1 : Int) := by omega
                obtain rfl : t = y1 := by have := HT.out; omega
                go_wp2_with fail
                go_meet
                exact ⟨rfl, rfl, rfl⟩
              · have h1' : ¬ (y1 : Int) < (x1 : Int) := by omega
                obtain rfl : t = x1 := by have := HT.out; omega
                go_wp2_with fail
                go_meet
                exact ⟨rfl, rfl, rfl⟩
            case rest =>
              obtain ⟨rfl, rfl, rfl⟩ := hcut
              clear q0 q1
              have HBF := Aside0.mk (HF.out)
              by_cases g1 : x2 = n
              · subst g1
                by_cases g2 : y2 = m
                · subst g2
                  rw [if_pos ⟨rfl, rfl⟩] at HIT hml
                  by_cases h3 : f ≤ t
                  · have h3' : (f : Int) ≤ (t : Int) := by omega
                    have e1 : ((t : Int) - (f : Int)) = ((t - f : Nat) : Int) := by omega
                    have hle : s0 + (s1 + (t + 1 - f)) ≤ 1114112 := by omega
                    clear hml
                    go_wp2
                    go_roundg (gk - 1)
                    case measure => omega
                    case rel => exact ⟨j + 1, by omega, by omega, by go_num, by rw [HIT.out]; exact congrArg (Value.int .i64) (by omega), HB3⟩
                  · have h3' : ¬ (f : Int) ≤ (t : Int) := by omega
                    rw [show t + 1 - f = 0 by omega, Nat.add_zero] at HIT
                    clear hml
                    go_wp2
                    go_roundg (gk - 1)
                    case measure => omega
                    case rel => exact ⟨j + 1, by omega, by omega, by go_num, by rw [HIT.out]; exact congrArg (Value.int .i64) (by omega), HB3⟩
                · have g2' : ((y2 : Int) == (m : Int)) = false := beq_false_of_ne (by omega)
                  have g2n : ¬ (y2 : Int) = (m : Int) := by omega
                  rw [if_neg (fun h => g2 h.2), Nat.add_zero] at HIT
                  clear hml
                  go_wp2
                  go_roundg (gk - 1)
                  case measure => omega
                  case rel => exact ⟨j + 1, by omega, by omega, by go_num, by rw [HIT.out]; exact congrArg (Value.int .i64) (by omega), HB3⟩
              · have g1' : ((x2 : Int) == (n : Int)) = false := beq_false_of_ne (by omega)
                have g1n : ¬ (x2 : Int) = (n : Int) := by omega
                rw [if_neg (fun h => g1 h.1), Nat.add_zero] at HIT
                clear hml
                go_wp2
                go_roundg (gk - 1)
                case measure => omega
                case rel => exact ⟨j + 1, by omega, by omega, by go_num, by rw [HIT.out]; exact congrArg (Value.int .i64) (by omega), HB3⟩
        · have hlt2' : ¬ (j : Int) < (Rb.length : Int) := by omega
          obtain rfl : j = Rb.length := by omega
          rw [List.take_of_length_le (Nat.le_refl _), ← HST.out]
          have HB9 := Aside0.mk (HB8.out.trans (hB.out.mono HB8.out.size))
          clear hB
          go_wp2_with fail
          go_roundg (gko - 1)
          case measure => omega
          case rel => exact ⟨i + 1, by omega, by omega, by go_num, rfl, HB9⟩
    · have hlt' : ¬ (i : Int) < (Ra.length : Int) := by omega
      obtain rfl : i = Ra.length := by omega
      rw [List.take_of_length_le (Nat.le_refl _), HTOT.out]
      have HF := Aside0.mk (HB2.out.trans (hB.out.mono HB2.out.size))
      clear hB
      go_wp2
      go_ret
      exact ⟨rfl, HF.out⟩

end Go.Proofs.Ytajmbafljncjcaa.PStageOver
