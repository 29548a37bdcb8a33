/- The document's Differ: its walk, by hand. -/
import Derived.Test.YtajmbafljncjcaaRunsDStageOver
import Derived.Test.YtajmbafljncjcaaCntQStageOver
import Derived.Deep.DeepCutAuto
namespace Go.Proofs.Ytajmbafljncjcaa.PStageOver
open Go.RowKit Go.Proofs.YtajmbafljncjcaaW.PrintWords Go.Proofs.YtajmbafljncjcaaW.PrintLast Go.Proofs.YtajmbafljncjcaaW.PrintMore Go.Proofs.Ytajmbafljncjcaa.Stage Go.Proofs.Ytajmbafljncjcaa.Mp
set_option linter.unusedVariables false
set_option linter.unusedSimpArgs false

section
variable {ops : Array Oper} {rest : List Oper} {o : Oper} {a : Act} {Q : Exit → Act → World → Prop} {w0 W : World}
theorem store_QT (base : Nat) (hN : o.dst = none) (hgd : o.guard = none) (p x : Operand) (ho : o.op = .store 3 p x) {g n c : Nat} (i : Nat) (q : List (Nat × Nat × Nat)) (y : Nat) {ok : Nat → Prop}
    (hp : a.eval p = .pointer (some ⟨g, i * 3 + 1, none⟩)) (hx : a.eval x = .int .i64 (y : Int)) (HO : Kd.R k30 30 W base ok (.slice (some ⟨g, 0, none⟩) n c) (q.map toS)) (hi : i < q.length) (HB : Below base w0 W)
    (h : ∀ w1, Kd.R k30 30 w1 base ok (.slice (some ⟨g, 0, none⟩) n c) ((q.set i ((q.getD i z3).1, y, (q.getD i z3).2.2)).map toS) → Below base w0 w1 → W.grownBy w1 (some g) → wpList Try.prog ops Q rest a w1) : wpList Try.prog ops Q (o :: rest) a W := by
  obtain ⟨k0, k1, k2⟩ := R_cellsQ HO i hi
  have hi' : i < (q.map toS).length := by rw [List.length_map]; exact hi
  have hn := (Kd.R_reads' HO).1
  refine Kd.R_store k30 (w0 := w0) base hN hgd 3 p x ho 30 (g := g) (n := n) (cap := c) (i : Int) 1 (q.map toS) (toS ((q.getD i z3).1, y, (q.getD i z3).2.2)) (.int .i64 (y : Int)) [.int .i64 (y : Int)] [.int .i64 ((q.getD i z3).1 : Nat), .int .i64 ((q.getD i z3).2.1 : Nat), .int .i64 ((q.getD i z3).2.2 : Nat)] ok (fun _ => False) hp ?_ hx rfl (by kernel_rfl) ?_ HO (by omega) (by omega) rfl ?_ (Nat.le_of_ble_eq_true rfl) (k30_mkM _ _ _ _) (fun _ h => h.elim) HB ?_
  · show i * 3 + 1 = (i : Int).toNat * 3 + 1
    rw [Int.toNat_natCast]
  · intro q' hq
    simp only [List.mem_cons, List.not_mem_nil, or_false] at hq
    rcases hq with rfl
    rfl
  · intro j u hu
    rw [Int.toNat_natCast]
    show W.cell? ⟨g, i * 3 + j, none⟩ = some u
    match j, hu with
    | 0, hu => cases hu; exact k0
    | 1, hu => cases hu; exact k1
    | 2, hu => cases hu; exact k2
  · intro w1 h1 h2 h3
    rw [Int.toNat_natCast, ← List.map_set] at h1
    exact h w1 h1 h2 h3
end
/-- Blocks that a list of one's own is not are kept as it grows. -/
theorem keep_h2 {α : Type} {d : Kd α} {e base g : Nat} {wo w5 : World} {ok : Nat → Prop} {v : Value} {xs : List α} (h : d.R e wo base ok v xs) (hn : ¬ ok g) (hg2 : g < wo.heap.size) (hg : wo.grownBy w5 v.ownBlock) : w5.heap[g]? = wo.heap[g]? := hg.block g hg2 fun e => hn (h.1 g e.symm)
theorem difO_step {b a : List (Nat × Nat × Nat)} (i : Nat) (hi : i < a.length) : difO b (a.take (i + 1)) [] = difI (a.getD i z3) b (difO b (a.take i) []) := by
  rw [take_q a i hi, difO_append]
  rfl
theorem difI_step {x : Nat × Nat × Nat} {b out : List (Nat × Nat × Nat)} (j : Nat) (hj : j < b.length) : difI x (b.take (j + 1)) out = if max x.1 (b.getD j z3).1 ≤ min x.2.1 (b.getD j z3).2.1 ∧ ¬ x.2.2 = (b.getD j z3).2.2 then pushD (max x.1 (b.getD j z3).1) (min x.2.1 (b.getD j z3).2.1) (difI x (b.take j) out) else difI x (b.take j) out := by
  rw [take_q b j hj, difI_append]
  rfl
def DifDPost (w : World) (N : List (Nat × Nat × Nat)) (e : Ending) (w' : World) : Prop := Below w.heap.size w w' ∧ ∃ A c, e = .returned (.slice A N.length c) ∧ N.length ≤ c ∧ Kd.C k30 w' A N.length (N.map toS)

set_option maxRecDepth 100000 in
set_option maxHeartbeats 3200000 in
theorem difd_calls (w : World) {q later : List (Nat × Nat × Nat)} (hq : RiseN 0 q) (hk : RiseN 0 later) (hql : q.length ≤ 1114112) (hkl : later.length ≤ 1114112) {A A2 : Option Addr} {c c2 : Nat}
    (hC : Kd.C k30 w A q.length (q.map toS)) (hc : q.length ≤ c) (hC2 : Kd.C k30 w A2 later.length (later.map toS)) (hc2 : later.length ≤ c2) :
    Calls Try.prog 44 #[.slice A q.length c, .slice A2 later.length c2] w (DifDPost w (difO (runsN [] 0 later) (runsN [] 0 q) [])) := by
  have hRal := (runsN_ok hq).length
  have hRbl := (runsN_ok hk).length
  have HBD := Aside0.mk (show BdD (runsN [] 0 q) from fun z hz => by have := ((runsN_ok hq).mem z hz).2.2.1; omega)
  have HQR := Aside0.mk hq
  have HKR := Aside0.mk hk
  have HQ := Aside0.mk hC
  have HK := Aside0.mk hC2
  have infoQ' := infoQ
  clear hq hk hC hC2
  go_enter Try.func44, Try.ntmps44
  go_wp2_with (first | ((with_reducible refine gate_dst (N := 12) rfl ?_); refine Kd.R_lit k30 _ 30 ?hg (N := 12) ?hd (xs := ([] : List S30)) (inner := []) (ok := fun _ => True) (okp := fun _ => True) ?hr ?hp (fun _ hk => hk) trivial (Below.refl _ _) (Nat.le_refl _) (by simp) ?_; (case hd => rfl); (case hg => rfl); (case hr => first | (go_simp; done) | (go_simp; rfl)); (case hp => exact (Reps.none _ _)); intro v1 w1 ho1 hb1 hg1 hn1; clear hg1 hn1; have HO1 := Aside0.mk ho1; have HB1 := Aside0.mk hb1; have HRU := Aside0.mk (runs_at HQR.out hql (Kd.C_below HQ.out hb1) hc); clear ho1 hb1))
  refine HRU.out.mono ?_
  rintro e w2 ⟨hb2, ga, ca, rfl, hga1, hga2, hcella⟩
  have HB2 := Aside0.mk (HB1.out.trans (hb2.mono HB1.out.size))
  have HO2 := Aside0.mk (Kd.R_below (R_ahead HO1.out hga1) hb2)
  have HCA := Aside0.mk hcella
  have HRV := Aside0.mk (fun (W : World) (hW : Below w.heap.size w W) => runs_at HKR.out hkl (Kd.C_below HK.out hW) hc2)
  clear hb2 hcella HRU HB1 HO1 hga1
  generalize runsN [] 0 q = Ra at *
  generalize runsN [] 0 later = Rb at *
  go_wp2
  go_loopg [5, 16] (Ra.length + 1) (fun k v5 v16 wr => ∃ i : Nat, i ≤ Ra.length ∧ Ra.length + 1 - i ≤ k ∧ v16 = .int .i64 (i : Int) ∧ Aside0 (Kd.R k30 30 wr w.heap.size (fun k => k ≠ ga) v5 ((difO Rb (Ra.take i) []).map toS)) ∧ Aside0 (Below w.heap.size w wr) ∧ Aside0 (wr.heap[ga]? = w2.heap[ga]? ∧ w2.heap.size ≤ wr.heap.size))
  case atStart => exact ⟨0, by omega, by omega, rfl, HO2, HB2, ⟨rfl, Nat.le_refl _⟩⟩
  case round =>
    obtain ⟨i, hi, hik, rfl, hO, hB, hC⟩ := hrel
    clear HO2 HB2
    by_cases hlt : i < Ra.length
    · have hlt' : (i : Int) < (Ra.length : Int) := by omega
      obtain ⟨k0, k1, k2⟩ := HCA.out wr i hlt hC.out.1
      have hst := difO_step (b := Rb) i hlt
      have hol := difO_len Rb (by omega) (Ra.take i) []
      rw [List.length_take, List.length_nil, Nat.min_eq_left hi] at hol
      have hbi := difO_bd (b := Rb) (Ra.take i) (fun z hz => HBD.out z (List.mem_of_mem_take hz)) (show BdD [] from fun z hz => by cases hz)
      have hx1 := HBD.out.get i hlt
      generalize Ra.getD i z3 = x at k0 k1 k2 hst hx1
      obtain ⟨x0, x1, x2⟩ := x
      simp only at k0 k1 k2 hst hx1
      have HST := Aside0.mk hst
      obtain ⟨gko, rfl⟩ : ∃ n, n = gk := ⟨_, rfl⟩
      obtain ⟨W4, rfl⟩ : ∃ x, x = wr := ⟨_, rfl⟩
      generalize hout : difO Rb (Ra.take i) [] = oi at hO HST hol hbi
      have HBI := Aside0.mk hbi
      clear hbi
      have HBX := Aside0.mk (blk_new W4 [.int .i64 (x0 : Int), .int .i64 (x1 : Int), .int .i64 (x2 : Int)] 30)
      have HO7 := Aside0.mk (show Kd.R k30 30 (W4.alloc (.cells #[.int .i64 (x0 : Int), .int .i64 (x1 : Int), .int .i64 (x2 : Int)] 30)) w.heap.size (fun k => k ≠ ga ∧ k ≠ W4.heap.size) _ (oi.map toS) from Kd.R_alloc (Kd.R_mono (Kd.R_bound hO.out) (fun k hk => ⟨hk.1, by omega⟩)) (.cells #[.int .i64 (x0 : Int), .int .i64 (x1 : Int), .int .i64 (x2 : Int)] 30))
      have HB7 := Aside0.mk (below_alloc hB.out (.cells #[.int .i64 (x0 : Int), .int .i64 (x1 : Int), .int .i64 (x2 : Int)] 30))
      have HC7 := Aside0.mk (show (W4.alloc (.cells #[.int .i64 (x0 : Int), .int .i64 (x1 : Int), .int .i64 (x2 : Int)] 30)).heap[ga]? = w2.heap[ga]? from (Below.heap_alloc W4 _ ga (by have := hC.out.2; omega)).trans hC.out.1)
      have HS7 := Aside0.mk (show ga < W4.heap.size ∧ w2.heap.size ≤ W4.heap.size ∧ W4.heap.size < (W4.alloc (.cells #[.int .i64 (x0 : Int), .int .i64 (x1 : Int), .int .i64 (x2 : Int)] 30)).heap.size from ⟨by have := hC.out.2; omega, hC.out.2, by rw [alloc_size]; omega⟩)
      have HRU := Aside0.mk (HRV.out _ HB7.out)
      clear hst hO hB hC hout
      go_wp2_with fail
      refine HRU.out.mono ?_
      rintro e w8 ⟨hb8, gb, cb, rfl, hgb1, hgb2, hcellb⟩
      have HB8 := Aside0.mk (HB7.out.trans (hb8.mono HB7.out.size))
      have HX8 := Aside0.mk (show Blk w8 W4.heap.size _ _ from (hb8.block _ HBX.out.lt).trans HBX.out)
      have HO8 := Aside0.mk (show Kd.R k30 30 w8 w.heap.size (fun k => (k ≠ ga ∧ k ≠ gb) ∧ k ≠ W4.heap.size) _ (oi.map toS) from Kd.R_below (Kd.R_mono (Kd.R_bound HO7.out) (fun k hk => ⟨⟨hk.1.1, by omega⟩, hk.1.2⟩)) hb8)
      have HCB := Aside0.mk hcellb
      have HC8 := Aside0.mk (show w8.heap[ga]? = w2.heap[ga]? from (hb8.block ga (by have := HS7.out; omega)).trans HC7.out)
      have HS8 := Aside0.mk (show ga < w8.heap.size ∧ gb < w8.heap.size ∧ W4.heap.size < w8.heap.size ∧ w2.heap.size ≤ w8.heap.size from by have := HS7.out; have := hb8.size; omega)
      generalize hgx : W4.heap.size = gx at *
      clear hb8 hcellb HRU HBX HB7 HO7 HC7 HS7 k0 k1 k2 hgb1 hgb2 hgx
      go_wp2
      go_loopg [5, 23] (Rb.length + 1) (fun k v5 v23 wr => ∃ j : Nat, j ≤ Rb.length ∧ Rb.length + 1 - j ≤ k ∧ v23 = .int .i64 (j : Int) ∧ Aside0 (Kd.R k30 30 wr w.heap.size (fun k => (k ≠ ga ∧ k ≠ gb) ∧ k ≠ gx) v5 ((difI (x0, x1, x2) (Rb.take j) oi).map toS)) ∧ Aside0 (Below w.heap.size w wr) ∧ Aside0 ((wr.heap[ga]? = w2.heap[ga]? ∧ wr.heap[gb]? = w8.heap[gb]? ∧ wr.heap[gx]? = w8.heap[gx]?) ∧ w8.heap.size ≤ wr.heap.size))
      case atStart => exact ⟨0, by omega, by omega, rfl, HO8, HB8, ⟨⟨HC8.out, rfl, rfl⟩, Nat.le_refl _⟩⟩
      case round =>
        obtain ⟨j, hj, hjk, rfl, hO, hB, hC⟩ := hrel
        clear HO8 HB8
        by_cases hlt2 : j < Rb.length
        · have hlt2' : (j : Int) < (Rb.length : Int) := by omega
          obtain ⟨c0, c1, c2'⟩ := HCB.out wr j hlt2 hC.out.1.2.1
          have hit := difI_step (x := (x0, x1, x2)) (out := oi) j hlt2
          have hll := difI_len (x0, x1, x2) (Rb.take j) oi
          rw [List.length_take, Nat.min_eq_left hj] at hll
          generalize Rb.getD j z3 = y at c0 c1 c2' hit
          obtain ⟨y0, y1, y2⟩ := y
          simp only at c0 c1 c2' hit
          have hbl := difI_bd (x := (x0, x1, x2)) hx1 (Rb.take j) HBI.out
          generalize difI (x0, x1, x2) (Rb.take j) oi = L at hO hit hll hbl
          have HBL := Aside0.mk hbl
          clear hbl
          generalize hE : difI (x0, x1, x2) (Rb.take (j + 1)) oi = L1 at hit
          have HE1 := Aside0.mk hE
          clear hE
          obtain ⟨wo, rfl⟩ : ∃ x, x = wr := ⟨_, rfl⟩
          have HBY := Aside0.mk (blk_new wo [.int .i64 (y0 : Int), .int .i64 (y1 : Int), .int .i64 (y2 : Int)] 30)
          have HBS := Aside0.mk (show Blk (wo.alloc (.cells #[.int .i64 (y0 : Int), .int .i64 (y1 : Int), .int .i64 (y2 : Int)] 30)) gx _ _ from ((show Blk wo gx _ _ from hC.out.1.2.2.trans HX8.out).alloc (.cells #[.int .i64 (y0 : Int), .int .i64 (y1 : Int), .int .i64 (y2 : Int)] 30)))
          have HO3 := Aside0.mk (Kd.R_alloc hO.out (.cells #[.int .i64 (y0 : Int), .int .i64 (y1 : Int), .int .i64 (y2 : Int)] 30))
          have HB3 := Aside0.mk (below_alloc hB.out (.cells #[.int .i64 (y0 : Int), .int .i64 (y1 : Int), .int .i64 (y2 : Int)] 30))
          have HC3 := Aside0.mk (show ((wo.alloc (.cells #[.int .i64 (y0 : Int), .int .i64 (y1 : Int), .int .i64 (y2 : Int)] 30)).heap[ga]? = w2.heap[ga]? ∧ (wo.alloc (.cells #[.int .i64 (y0 : Int), .int .i64 (y1 : Int), .int .i64 (y2 : Int)] 30)).heap[gb]? = w8.heap[gb]? ∧ (wo.alloc (.cells #[.int .i64 (y0 : Int), .int .i64 (y1 : Int), .int .i64 (y2 : Int)] 30)).heap[gx]? = w8.heap[gx]?) ∧ w8.heap.size ≤ (wo.alloc (.cells #[.int .i64 (y0 : Int), .int .i64 (y1 : Int), .int .i64 (y2 : Int)] 30)).heap.size from ⟨⟨(Below.heap_alloc wo _ ga (by have := hC.out.2; have := HS8.out; omega)).trans hC.out.1.1, (Below.heap_alloc wo _ gb (by have := hC.out.2; have := HS8.out; omega)).trans hC.out.1.2.1, (Below.heap_alloc wo _ gx (by have := hC.out.2; have := HS8.out; omega)).trans hC.out.1.2.2⟩, by rw [alloc_size]; have := hC.out.2; omega⟩)
          clear hB hO hC
          obtain ⟨f, hf⟩ : ∃ f, f = max x0 y0 := ⟨_, rfl⟩
          obtain ⟨t, ht⟩ : ∃ t, t = min x1 y1 := ⟨_, rfl⟩
          rw [← hf, ← ht] at hit
          have HIT := Aside0.mk hit
          have HF := Aside0.mk hf
          have HT := Aside0.mk ht
          clear hf ht hit
          have q0 := HBY.out.cell 0
          have q1 := HBY.out.cell 1
          have r0 := HBS.out.cell 0
          have r1 := HBS.out.cell 1
          rw [List.getElem?_cons_zero] at q0 r0
          rw [List.getElem?_cons_succ, List.getElem?_cons_zero] at q1 r1
          go_upto_region 8 with fail
          generalize hq : wo.alloc (.cells #[.int .i64 (y0 : Int), .int .i64 (y1 : Int), .int .i64 (y2 : Int)] 30) = wq at *
          generalize wo.heap.size = gy at *
          go_region
          have hdr : Below wq.heap.size wq wq.drew := ⟨rfl, rfl, rfl, Nat.le_refl _, fun _ _ => rfl⟩
          replace HO3 := Aside0.mk (Kd.R_below HO3.out hdr)
          replace HB3 := Aside0.mk (HB3.out.trans (hdr.mono HB3.out.size))
          replace HC3 := Aside0.mk (show (wq.drew.heap[ga]? = w2.heap[ga]? ∧ wq.drew.heap[gb]? = w8.heap[gb]? ∧ wq.drew.heap[gx]? = w8.heap[gx]?) ∧ w8.heap.size ≤ wq.drew.heap.size from HC3.out)
          have r2 := HBS.out.cell 2
          have q2 := HBY.out.cell 2
          rw [List.getElem?_cons_succ, List.getElem?_cons_succ, List.getElem?_cons_zero] at r2 q2
          replace q0 : wq.drew.cell? _ = _ := q0
          replace q1 : wq.drew.cell? _ = _ := q1
          replace q2 : wq.drew.cell? _ = _ := q2
          replace r2 : wq.drew.cell? _ = _ := r2
          clear hq HBY HBS r0 r1 hdr
          generalize wq.drew = wc at *
          go_upto_if 34 with fail
          go_cut [10, 23] from 23 to 81 (fun v10 v23 wx => v10 = .int .i64 (f : Int) ∧ v23 = .int .i64 (j : Int) ∧ wc = wx)
          case first =>
            by_cases h1 : x0 < y0
            · have h1' : (x0 : Int) < (y0 : Int) := by omega
              obtain rfl : f = y0 := by have := HF.out; omega
              go_wp2_with fail
              go_meet
              exact ⟨rfl, rfl, rfl⟩
            · have h1' : ¬ (x0 : Int) < (y0 : Int) := by omega
              obtain rfl : f = x0 := by have := HF.out; omega
              go_wp2_with fail
              go_meet
              exact ⟨rfl, rfl, rfl⟩
          case rest =>
            obtain ⟨rfl, rfl, rfl⟩ := hcut
            go_upto_if 40 with fail
            go_cut [11, 23] from 23 to 81 (fun v11 v23 wx => v11 = .int .i64 (t : Int) ∧ v23 = .int .i64 (j : Int) ∧ wc = wx)
            case first =>
              by_cases h1 : y1 < x1
              · have h1' : (y1 : Int) < (x1 : Int) := by omega
                obtain rfl : t = y1 := by have := HT.out; omega
                go_wp2_with fail
                go_meet
                exact ⟨rfl, rfl, rfl⟩
              · have h1' : ¬ (y1 : Int) < (x1 : Int) := by omega
                obtain rfl : t = x1 := by have := HT.out; omega
                go_wp2_with fail
                go_meet
                exact ⟨rfl, rfl, rfl⟩
            case rest =>
              obtain ⟨rfl, rfl, rfl⟩ := hcut
              clear q0 q1
              by_cases h3 : f ≤ t
              · have h3' : ¬ (t : Int) < (f : Int) := by omega
                by_cases g2 : x2 = y2
                · subst g2
                  have HTL := Aside0.mk (HE1.out.trans (HIT.out.trans (if_neg (fun h => h.2 rfl))))
                  have HC5 := HC3
                  have HB5 := HB3
                  go_wp2
                  go_roundg (gk - 1)
                  case measure => omega
                  case rel => exact ⟨j + 1, by omega, by omega, by go_num, ⟨by rw [HTL.out]; exact HO3.out⟩, HB5, HC5⟩
                · have g2' : ((x2 : Int) == (y2 : Int)) = false := beq_false_of_ne (by omega)
                  have g2n : ¬ (x2 : Int) = (y2 : Int) := by omega
                  have HL1 := Aside0.mk (HIT.out.trans (if_pos ⟨h3, g2⟩))
                  have HS9 := Aside0.mk (show ga < wc.heap.size ∧ gb < wc.heap.size ∧ gx < wc.heap.size ∧ w8.heap.size ≤ wc.heap.size from by have := HS8.out; have := HC3.out.2; omega)
                  obtain ⟨A5, c5, rfl, hc5, _⟩ := Kd.R_reads HO3.out
                  have HOZ := HO3
                  rw [List.length_map] at HOZ hc5 ⊢
                  clear HO3
                  rcases Nat.eq_zero_or_pos L.length with hz | hz
                  · have HTL := Aside0.mk (HE1.out.trans (HL1.out.trans (pushD_nil hz)))
                    rw [hz] at HOZ hc5 ⊢
                    go_wp2_with (first | ((with_reducible refine gate_builtin (b := .append) (xs := #[.tmp 75, .tmp 79]) rfl ?_); at_builtin; refine Kd.R_append k30 (w0 := w) w.heap.size rfl (.tmp 75) (.tmp 79) 24 30 (.agg #[.int .i64 0, .int .i64 0, .int .i64 0]) 24 rfl Try.underlying24 infoQ' rfl (by decide) (by omega) _ (L.map toS) (toS (f, t, 1)) [.int .i64 (f : Int), .int .i64 (t : Int), .int .i64 1] (fun k => (k ≠ ga ∧ k ≠ gb) ∧ k ≠ gx) (fun _ => False) rfl (by first | (go_simp; done) | (go_simp; rfl)) (k30_mkM _ _ _ (toS (f, t, 1))) (fun _ hk => hk.elim) (fun k hk => by have h1 := HS9.out; omega) HOZ.out HB3.out HB3.out.size (by rw [List.length_map]; omega) ?_; intro v5 w5 ho5 hb5 hg5 hat5; have HO5 := Aside0.mk ho5; have HB5 := Aside0.mk hb5; have HC5 := Aside0.mk (show (w5.heap[ga]? = w2.heap[ga]? ∧ w5.heap[gb]? = w8.heap[gb]? ∧ w5.heap[gx]? = w8.heap[gx]?) ∧ w8.heap.size ≤ w5.heap.size from ⟨⟨(keep_h2 HOZ.out (fun h => h.1.1 rfl) (by have := HS9.out; omega) hg5).trans HC3.out.1.1, (keep_h2 HOZ.out (fun h => h.1.2 rfl) (by have := HS9.out; omega) hg5).trans HC3.out.1.2.1, (keep_h2 HOZ.out (fun h => h.2 rfl) (by have := HS9.out; omega) hg5).trans HC3.out.1.2.2⟩, by have := HS9.out; have := hg5.size; omega⟩); clear ho5 hb5 hg5 hat5))
                    go_roundg (gk - 1)
                    case measure => omega
                    case rel => exact ⟨j + 1, by omega, by omega, by go_num, ⟨by rw [HTL.out, List.map_append]; exact HO5.out⟩, HB5, HC5⟩
                  · obtain ⟨m, hm⟩ : ∃ m, L.length = m + 1 := ⟨L.length - 1, by omega⟩
                    obtain ⟨g, cells, rfl, hcg, hbg⟩ := R_head HOZ.out (by rw [List.length_map]; exact hz)
                    obtain ⟨_, l1, _⟩ := R_cellsQ HOZ.out m (by omega)
                    rw [hm] at HOZ hc5 ⊢
                    clear hcg
                    have g6 : (((m + 1 : Nat) : Int)) = (m : Int) + 1 := by omega
                    have g7 : ((m : Int) + 1 - 1) = (m : Int) := by omega
                    have g8 : (0 : Int) < (m : Int) + 1 := by omega
                    have hlb := HBL.out.get m (by omega)
                    by_cases hj1 : (L.getD m z3).2.1 + 1 = f
                    · have HTL := Aside0.mk (HE1.out.trans (HL1.out.trans (pushD_set hm hj1)))
                      generalize (L.getD m z3).2.1 = lt at l1 hj1 hlb
                      subst hj1
                      have hj2 : (((lt + 1 : Nat) : Int)) = (lt : Int) + 1 := by omega
                      have hj3 : ((lt : Int) + 1 == (lt : Int) + 1) = true := beq_self_eq_true _
                      go_wp2_with (first | ((with_reducible refine gate_store (t := 3) (p := 74) rfl ?_); refine store_QT (w0 := w) w.heap.size rfl rfl (.tmp 74) (.tmp 72) rfl m L t rfl rfl HOZ.out (by omega) HB3.out ?_; intro w5 ho5 hb5 hg5; have HO5 := Aside0.mk ho5; have HB5 := Aside0.mk hb5; have HC5 := Aside0.mk (show (w5.heap[ga]? = w2.heap[ga]? ∧ w5.heap[gb]? = w8.heap[gb]? ∧ w5.heap[gx]? = w8.heap[gx]?) ∧ w8.heap.size ≤ w5.heap.size from ⟨⟨(keep_h2 HOZ.out (fun h => h.1.1 rfl) (by have := HS9.out; omega) hg5).trans HC3.out.1.1, (keep_h2 HOZ.out (fun h => h.1.2 rfl) (by have := HS9.out; omega) hg5).trans HC3.out.1.2.1, (keep_h2 HOZ.out (fun h => h.2 rfl) (by have := HS9.out; omega) hg5).trans HC3.out.1.2.2⟩, by have := HS9.out; have := hg5.size; omega⟩); clear ho5 hb5 hg5))
                      go_wp2
                      go_roundg (gk - 1)
                      case measure => omega
                      case rel => exact ⟨j + 1, by omega, by omega, by go_num, ⟨by rw [HTL.out]; exact HO5.out⟩, HB5, HC5⟩
                    · have HTL := Aside0.mk (HE1.out.trans (HL1.out.trans (pushD_add hm hj1)))
                      generalize (L.getD m z3).2.1 = lt at l1 hj1 hlb
                      have hj2 : ¬ (lt : Int) + 1 = (f : Int) := by omega
                      have hj3 : ((lt : Int) + 1 == (f : Int)) = false := beq_false_of_ne hj2
                      go_upto_if 67 with fail
                      clear l1
                      generalize (Value.slice (some ⟨g, 0, none⟩) (m + 1) c5) = vS at *
                      go_wp2_with (first | ((with_reducible refine gate_builtin (b := .append) (xs := #[.tmp 75, .tmp 79]) rfl ?_); at_builtin; refine Kd.R_append k30 (w0 := w) w.heap.size rfl (.tmp 75) (.tmp 79) 24 30 (.agg #[.int .i64 0, .int .i64 0, .int .i64 0]) 24 rfl Try.underlying24 infoQ' rfl (by decide) (by omega) _ (L.map toS) (toS (f, t, 1)) [.int .i64 (f : Int), .int .i64 (t : Int), .int .i64 1] (fun k => (k ≠ ga ∧ k ≠ gb) ∧ k ≠ gx) (fun _ => False) rfl (by first | (go_simp; done) | (go_simp; rfl)) (k30_mkM _ _ _ (toS (f, t, 1))) (fun _ hk => hk.elim) (fun k hk => by have h1 := HS9.out; omega) HOZ.out HB3.out HB3.out.size (by rw [List.length_map]; omega) ?_; intro v5 w5 ho5 hb5 hg5 hat5; have HO5 := Aside0.mk ho5; have HB5 := Aside0.mk hb5; have HC5 := Aside0.mk (show (w5.heap[ga]? = w2.heap[ga]? ∧ w5.heap[gb]? = w8.heap[gb]? ∧ w5.heap[gx]? = w8.heap[gx]?) ∧ w8.heap.size ≤ w5.heap.size from ⟨⟨(keep_h2 HOZ.out (fun h => h.1.1 rfl) (by have := HS9.out; omega) hg5).trans HC3.out.1.1, (keep_h2 HOZ.out (fun h => h.1.2 rfl) (by have := HS9.out; omega) hg5).trans HC3.out.1.2.1, (keep_h2 HOZ.out (fun h => h.2 rfl) (by have := HS9.out; omega) hg5).trans HC3.out.1.2.2⟩, by have := HS9.out; have := hg5.size; omega⟩); clear ho5 hb5 hg5 hat5))
                      go_roundg (gk - 1)
                      case measure => omega
                      case rel => exact ⟨j + 1, by omega, by omega, by go_num, ⟨by rw [HTL.out, List.map_append]; exact HO5.out⟩, HB5, HC5⟩
              · have h3' : (t : Int) < (f : Int) := by omega
                have HTL := Aside0.mk (HE1.out.trans (HIT.out.trans (if_neg (fun h => h3 h.1))))
                have HC5 := HC3
                have HB5 := HB3
                go_wp2
                go_roundg (gk - 1)
                case measure => omega
                case rel => exact ⟨j + 1, by omega, by omega, by go_num, ⟨by rw [HTL.out]; exact HO3.out⟩, HB5, HC5⟩
        · have hlt2' : ¬ (j : Int) < (Rb.length : Int) := by omega
          obtain rfl : j = Rb.length := by omega
          have hO9 := hO.out
          rw [List.take_of_length_le (Nat.le_refl _), ← HST.out] at hO9
          have HO9 := Aside0.mk (Kd.R_mono hO9 (fun _ h => h.1.1) : Kd.R k30 30 wr w.heap.size (fun k => k ≠ ga) _ _)
          have HC9 := Aside0.mk (show wr.heap[ga]? = w2.heap[ga]? ∧ w2.heap.size ≤ wr.heap.size from ⟨hC.out.1.1, by have := hC.out.2; have := HS8.out; omega⟩)
          clear hO9 hO hC
          go_wp2_with fail
          go_roundg (gko - 1)
          case measure => omega
          case rel => exact ⟨i + 1, by omega, by omega, by go_num, HO9, hB, HC9⟩
    · have hlt' : ¬ (i : Int) < (Ra.length : Int) := by omega
      obtain rfl : i = Ra.length := by omega
      have hOut := hO.out
      rw [List.take_of_length_le (Nat.le_refl _)] at hOut
      generalize difO Rb Ra [] = out at *
      obtain ⟨A5, c5, rfl, hc5, hC5⟩ := Kd.R_reads hOut
      rw [List.length_map] at hc5 hC5 ⊢
      have HF := Aside0.mk (show DifDPost w out (.returned (.slice A5 out.length c5)) wr from ⟨hB.out, A5, c5, rfl, hc5, hC5⟩)
      clear hOut hc5 hC5 hO hB hC
      go_wp2
      go_ret
      exact HF.out

end Go.Proofs.Ytajmbafljncjcaa.PStageOver
