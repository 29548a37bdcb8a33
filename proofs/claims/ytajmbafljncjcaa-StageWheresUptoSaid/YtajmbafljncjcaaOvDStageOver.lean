/- The document's Over: its walk, by hand. -/
import Derived.Test.YtajmbafljncjcaaSwapDStageOver
import Derived.Test.YtajmbafljncjcaaRefKStageOver
import Derived.Deep.DeepCutAuto
namespace Go.Proofs.Ytajmbafljncjcaa.PStageOver
open Go.RowKit Go.Proofs.YtajmbafljncjcaaW.PrintWords Go.Proofs.YtajmbafljncjcaaW.PrintLast Go.Proofs.YtajmbafljncjcaaW.PrintMore Go.Proofs.Ytajmbafljncjcaa.Stage Go.Proofs.Ytajmbafljncjcaa.Mp
set_option linter.unusedVariables false
set_option linter.unusedSimpArgs false

theorem overI_append (later : List (Nat × Nat × Nat)) (x : Nat × Nat × Nat) (b : List (Nat × Nat × Nat)) : ∀ a out : List (Nat × Nat × Nat), overI later x (a ++ b) out = overI later x b (overI later x a out)
  | [], out => rfl
  | y :: a, out => overI_append later x b a _
theorem overO_append (later r b : List (Nat × Nat × Nat)) : ∀ a out : List (Nat × Nat × Nat), overO later r (a ++ b) out = overO later r b (overO later r a out)
  | [], out => rfl
  | y :: a, out => overO_append later r b a _
theorem overI_len (later : List (Nat × Nat × Nat)) (x : Nat × Nat × Nat) : ∀ b out : List (Nat × Nat × Nat), out.length ≤ (overI later x b out).length
  | [], out => Nat.le_refl _
  | y :: b, out => by
    refine Nat.le_trans ?_ (overI_len later x b _)
    split
    · rw [List.length_append]; exact Nat.le_add_right _ _
    · exact Nat.le_refl _
theorem overO_len (later r : List (Nat × Nat × Nat)) : ∀ a out : List (Nat × Nat × Nat), out.length ≤ (overO later r a out).length
  | [], out => Nat.le_refl _
  | y :: a, out => Nat.le_trans (overI_len later y r out) (overO_len later r a _)
theorem overO_step {later b a : List (Nat × Nat × Nat)} (i : Nat) (hi : i < a.length) : overO later b (a.take (i + 1)) [] = overI later (a.getD i z3) b (overO later b (a.take i) []) := by
  rw [take_q a i hi, overO_append]
  rfl
theorem overO_mid {later b a : List (Nat × Nat × Nat)} (i j : Nat) (hi : i < a.length) : (overI later (a.getD i z3) (b.take j) (overO later b (a.take i) [])).length ≤ (overO later b a []).length := by
  have h1 : overO later b a [] = overO later b (a.drop (i + 1)) (overI later (a.getD i z3) (b.drop j) (overI later (a.getD i z3) (b.take j) (overO later b (a.take i) []))) := by
    rw [← overI_append, List.take_append_drop, ← overO_step i hi, ← overO_append, List.take_append_drop]
  rw [h1]
  exact Nat.le_trans (overI_len _ _ _ _) (overO_len _ _ _ _)
theorem overI_yes {later b out : List (Nat × Nat × Nat)} {x0 x1 x2 y0 y1 y2 f t : Nat} (hf : f = max x0 y0) (ht : t = min x1 y1) (h : f ≤ t) : overI later (x0, x1, x2) (b ++ [(y0, y1, y2)]) out = overI later (x0, x1, x2) b out ++ cutN later f t x2 [] := by
  subst hf ht
  rw [overI_append]
  show (if max x0 y0 ≤ min x1 y1 then _ else _) = _
  rw [if_pos h]
theorem overI_no {later b out : List (Nat × Nat × Nat)} {x0 x1 x2 y0 y1 y2 f t : Nat} (hf : f = max x0 y0) (ht : t = min x1 y1) (h : ¬ f ≤ t) : overI later (x0, x1, x2) (b ++ [(y0, y1, y2)]) out = overI later (x0, x1, x2) b out := by
  subst hf ht
  rw [overI_append]
  show (if max x0 y0 ≤ min x1 y1 then _ else _) = _
  rw [if_neg h]
/-- Blocks that a list of one's own is not are kept as it grows. -/
theorem keep_h2 {α : Type} {d : Kd α} {e base g : Nat} {wo w5 : World} {ok : Nat → Prop} {v : Value} {xs : List α} (h : d.R e wo base ok v xs) (hn : ¬ ok g) (hg2 : g < wo.heap.size) (hg : wo.grownBy w5 v.ownBlock) : w5.heap[g]? = wo.heap[g]? := hg.block g hg2 fun e => hn (h.1 g e.symm)

set_option maxRecDepth 100000 in
set_option maxHeartbeats 3200000 in
theorem overd_calls (w : World) {q later : List (Nat × Nat × Nat)} (hq : RiseN 0 q) (hk : RiseN 0 later) (hql : q.length ≤ 1114112) (hkl : later.length ≤ 1114112) {A A2 : Option Addr} {c c2 : Nat}
    (hC : Kd.C k30 w A q.length (q.map toS)) (hc : q.length ≤ c) (hC2 : Kd.C k30 w A2 later.length (later.map toS)) (hc2 : later.length ≤ c2) :
    Calls Try.prog 28 #[.slice A q.length c, .slice A2 later.length c2] w (ListPost w (bothN q later)) := by
  have htil := runsN_ok hq
  have hRal := htil.length
  have hRbl := (runsN_ok hk).length
  have HCOV := (overN_cov hq hk).length
  have HRISE := Aside0.mk (overN_rise hq hk)
  have HBIG := Aside0.mk (fun i hi => by
    have := htil.mem ((runsN [] 0 q).getD i z3) (by rw [List.getD_eq_getElem?_getD, List.getElem?_eq_getElem hi]; exact List.getElem_mem hi)
    omega : ∀ i, i < (runsN [] 0 q).length → ((runsN [] 0 q).getD i z3).1 ≤ 1114111 ∧ ((runsN [] 0 q).getD i z3).2.1 ≤ 1114111)
  have HQ := Aside0.mk hC
  have HK := Aside0.mk hC2
  have HKR := Aside0.mk hk
  have HQR := Aside0.mk hq
  have infoQ' := infoQ
  have hb : bothN q later = nz (runsN [] 0 (overN q later)) := rfl
  rw [hb]
  have hN : overN q later = overO later (runsN [] 0 later) (runsN [] 0 q) [] := rfl
  rw [hN] at HCOV HRISE ⊢
  clear hb hN hC hC2 hq hk htil
  go_enter Try.func28, Try.ntmps28
  go_wp2_with (first | ((with_reducible refine gate_dst (N := 14) rfl ?_); refine Kd.R_lit k30 _ 30 ?hg (N := 14) ?hd (xs := ([] : List S30)) (inner := []) (ok := fun _ => True) (okp := fun _ => True) ?hr ?hp (fun _ hk => hk) trivial (Below.refl _ _) (Nat.le_refl _) (by simp) ?_; (case hd => rfl); (case hg => rfl); (case hr => first | (go_simp; done) | (go_simp; rfl)); (case hp => exact (Reps.none _ _)); intro v1 w1 ho1 hb1 hg1 hn1; clear hg1 hn1; have HO1 := Aside0.mk ho1; have HB1 := Aside0.mk hb1; have HRU := Aside0.mk (runs_at HQR.out hql (Kd.C_below HQ.out hb1) hc); clear ho1 hb1))
  refine HRU.out.mono ?_
  rintro e w2 ⟨hb2, ga, ca, rfl, hga1, hga2, hcella⟩
  have HB2 := Aside0.mk (HB1.out.trans (hb2.mono HB1.out.size))
  have HO2 := Aside0.mk (Kd.R_below (R_ahead HO1.out hga1) hb2)
  have HRV := Aside0.mk (runs_at HKR.out hkl (Kd.C_below HK.out HB2.out) hc2)
  clear hb2 HRU HB1 HO1 hga1
  go_wp2_with fail
  refine HRV.out.mono ?_
  rintro e w3 ⟨hb3, gb, cb, rfl, hgb1, hgb2, hcellb⟩
  have HB3 := Aside0.mk (HB2.out.trans (hb3.mono HB2.out.size))
  have HO3 := Aside0.mk (show Kd.R k30 30 w3 w.heap.size (fun k => k ≠ ga ∧ k ≠ gb) _ ([].map toS) from Kd.R_below (Kd.R_mono (Kd.R_bound HO2.out) (fun k hk => ⟨hk.1, by omega⟩)) hb3)
  have HCA := Aside0.mk (fun (W : World) (i : Nat) (hi : i < (runsN [] 0 q).length) (hW : W.heap[ga]? = w3.heap[ga]?) => hcella W i hi (hW.trans (hb3.block ga hga2)))
  have HCB := Aside0.mk hcellb
  have hga3 : ga < w3.heap.size := by omega
  clear hb3 hcella hcellb HRV HB2 HO2 hgb1 hga2
  generalize runsN [] 0 q = Ra at *
  generalize runsN [] 0 later = Rb at *
  go_wp2
  go_loopg [5, 21] (Ra.length + 1) (fun k v5 v21 wr => ∃ i : Nat, i ≤ Ra.length ∧ Ra.length + 1 - i ≤ k ∧ v21 = .int .i64 (i : Int) ∧ Aside0 (Kd.R k30 30 wr w.heap.size (fun k => k ≠ ga ∧ k ≠ gb) v5 ((overO later Rb (Ra.take i) []).map toS)) ∧ Aside0 (Below w.heap.size w wr) ∧ Aside0 ((wr.heap[ga]? = w3.heap[ga]? ∧ wr.heap[gb]? = w3.heap[gb]?) ∧ w3.heap.size ≤ wr.heap.size))
  case atStart => exact ⟨0, by omega, by omega, rfl, HO3, HB3, ⟨⟨rfl, rfl⟩, Nat.le_refl _⟩⟩
  case round =>
    obtain ⟨i, hi, hik, rfl, hO, hB, hC⟩ := hrel
    clear HO3 HB3
    by_cases hlt : i < Ra.length
    · have hlt' : (i : Int) < (Ra.length : Int) := by omega
      obtain ⟨k0, k1, k2⟩ := HCA.out wr i hlt hC.out.1.1
      have hbig := HBIG.out i hlt
      have hst := overO_step (later := later) (b := Rb) i hlt
      have hmid := fun j => overO_mid (later := later) (b := Rb) i j hlt
      generalize Ra.getD i z3 = x at k0 k1 k2 hst hmid hbig
      obtain ⟨x0, x1, x2⟩ := x
      simp only at k0 k1 k2 hst hmid hbig
      have HST := Aside0.mk hst
      have HMID := Aside0.mk hmid
      obtain ⟨gko, rfl⟩ : ∃ n, n = gk := ⟨_, rfl⟩
      obtain ⟨W4, rfl⟩ : ∃ x, x = wr := ⟨_, rfl⟩
      generalize hout : overO later Rb (Ra.take i) [] = oi at hO HST HMID
      have HBX := Aside0.mk (blk_new W4 [.int .i64 (x0 : Int), .int .i64 (x1 : Int), .int .i64 (x2 : Int)] 30)
      have HO8 := Aside0.mk (show Kd.R k30 30 (W4.alloc (.cells #[.int .i64 (x0 : Int), .int .i64 (x1 : Int), .int .i64 (x2 : Int)] 30)) w.heap.size (fun k => (k ≠ ga ∧ k ≠ gb) ∧ k ≠ W4.heap.size) _ (oi.map toS) from Kd.R_alloc (Kd.R_mono (Kd.R_bound hO.out) (fun k hk => ⟨hk.1, by omega⟩)) (.cells #[.int .i64 (x0 : Int), .int .i64 (x1 : Int), .int .i64 (x2 : Int)] 30))
      have HB8 := Aside0.mk (below_alloc hB.out (.cells #[.int .i64 (x0 : Int), .int .i64 (x1 : Int), .int .i64 (x2 : Int)] 30))
      have HC8 := Aside0.mk (show (W4.alloc (.cells #[.int .i64 (x0 : Int), .int .i64 (x1 : Int), .int .i64 (x2 : Int)] 30)).heap[ga]? = w3.heap[ga]? ∧ (W4.alloc (.cells #[.int .i64 (x0 : Int), .int .i64 (x1 : Int), .int .i64 (x2 : Int)] 30)).heap[gb]? = w3.heap[gb]? from ⟨(Below.heap_alloc W4 _ ga (by have := hC.out.2; omega)).trans hC.out.1.1, (Below.heap_alloc W4 _ gb (by have := hC.out.2; omega)).trans hC.out.1.2⟩)
      have HS8 := Aside0.mk (show w3.heap.size ≤ W4.heap.size ∧ W4.heap.size < (W4.alloc (.cells #[.int .i64 (x0 : Int), .int .i64 (x1 : Int), .int .i64 (x2 : Int)] 30)).heap.size from ⟨hC.out.2, by rw [alloc_size]; omega⟩)
      clear hst hmid hO hB hC hout
      go_wp2_with fail
      generalize hq8 : W4.alloc (.cells #[.int .i64 (x0 : Int), .int .i64 (x1 : Int), .int .i64 (x2 : Int)] 30) = w8 at *
      generalize hgx : W4.heap.size = gx at *
      clear k0 k1 k2 hq8 hgx
      go_loopg [5, 27] (Rb.length + 1) (fun k v5 v27 wr => ∃ j : Nat, j ≤ Rb.length ∧ Rb.length + 1 - j ≤ k ∧ v27 = .int .i64 (j : Int) ∧ Aside0 (Kd.R k30 30 wr w.heap.size (fun k => (k ≠ ga ∧ k ≠ gb) ∧ k ≠ gx) v5 ((overI later (x0, x1, x2) (Rb.take j) oi).map toS)) ∧ Aside0 (Below w.heap.size w wr) ∧ Aside0 ((wr.heap[ga]? = w3.heap[ga]? ∧ wr.heap[gb]? = w3.heap[gb]? ∧ wr.heap[gx]? = w8.heap[gx]?) ∧ w8.heap.size ≤ wr.heap.size))
      case atStart => exact ⟨0, by omega, by omega, rfl, HO8, HB8, ⟨⟨HC8.out.1, HC8.out.2, rfl⟩, Nat.le_refl _⟩⟩
      case round =>
        obtain ⟨j, hj, hjk, rfl, hO, hB, hC⟩ := hrel
        clear HO8 HB8
        by_cases hlt2 : j < Rb.length
        · have hlt2' : (j : Int) < (Rb.length : Int) := by omega
          obtain ⟨c0, c1, c2'⟩ := HCB.out wr j hlt2 hC.out.1.2.1
          have HTK := Aside0.mk (take_q Rb j hlt2)
          have hxl := HMID.out (j + 1)
          generalize Rb.getD j z3 = y at c0 c1 c2' HTK
          obtain ⟨y0, y1, y2⟩ := y
          simp only at c0 c1 c2'
          obtain ⟨wo, rfl⟩ : ∃ x, x = wr := ⟨_, rfl⟩
          have HBY := Aside0.mk (blk_new wo [.int .i64 (y0 : Int), .int .i64 (y1 : Int), .int .i64 (y2 : Int)] 30)
          have HBS := Aside0.mk (show Blk (wo.alloc (.cells #[.int .i64 (y0 : Int), .int .i64 (y1 : Int), .int .i64 (y2 : Int)] 30)) gx _ _ from ((show Blk wo gx _ _ from hC.out.1.2.2.trans HBX.out).alloc (.cells #[.int .i64 (y0 : Int), .int .i64 (y1 : Int), .int .i64 (y2 : Int)] 30)))
          have HO3 := Aside0.mk (Kd.R_alloc hO.out (.cells #[.int .i64 (y0 : Int), .int .i64 (y1 : Int), .int .i64 (y2 : Int)] 30))
          have HB3 := Aside0.mk (below_alloc hB.out (.cells #[.int .i64 (y0 : Int), .int .i64 (y1 : Int), .int .i64 (y2 : Int)] 30))
          have HC3 := Aside0.mk (show (wo.alloc (.cells #[.int .i64 (y0 : Int), .int .i64 (y1 : Int), .int .i64 (y2 : Int)] 30)).heap[ga]? = w3.heap[ga]? ∧ (wo.alloc (.cells #[.int .i64 (y0 : Int), .int .i64 (y1 : Int), .int .i64 (y2 : Int)] 30)).heap[gb]? = w3.heap[gb]? ∧ (wo.alloc (.cells #[.int .i64 (y0 : Int), .int .i64 (y1 : Int), .int .i64 (y2 : Int)] 30)).heap[gx]? = w8.heap[gx]? from ⟨(Below.heap_alloc wo _ ga (by have := hC.out.2; have := HS8.out; omega)).trans hC.out.1.1, (Below.heap_alloc wo _ gb (by have := hC.out.2; have := HS8.out; omega)).trans hC.out.1.2.1, (Below.heap_alloc wo _ gx (by have := hC.out.2; have := HS8.out; omega)).trans hC.out.1.2.2⟩)
          have HS3 := Aside0.mk (show w8.heap.size ≤ (wo.alloc (.cells #[.int .i64 (y0 : Int), .int .i64 (y1 : Int), .int .i64 (y2 : Int)] 30)).heap.size from by rw [alloc_size]; have := hC.out.2; omega)
          clear hO hB hC
          obtain ⟨f, hf⟩ : ∃ f, f = max x0 y0 := ⟨_, rfl⟩
          obtain ⟨t, ht⟩ : ∃ t, t = min x1 y1 := ⟨_, rfl⟩
          have HF := Aside0.mk hf
          have HT := Aside0.mk ht
          clear hf ht
          have q0 := HBY.out.cell 0
          have q1 := HBY.out.cell 1
          have r0 := HBS.out.cell 0
          have r1 := HBS.out.cell 1
          rw [List.getElem?_cons_zero] at q0 r0
          rw [List.getElem?_cons_succ, List.getElem?_cons_zero] at q1 r1
          go_upto_region 9 with fail
          generalize hq : wo.alloc (.cells #[.int .i64 (y0 : Int), .int .i64 (y1 : Int), .int .i64 (y2 : Int)] 30) = wq at *
          generalize wo.heap.size = gy at *
          go_region
          have hdr : Below wq.heap.size wq wq.drew := ⟨rfl, rfl, rfl, Nat.le_refl _, fun _ _ => rfl⟩
          replace HO3 := Aside0.mk (Kd.R_below HO3.out hdr)
          replace HB3 := Aside0.mk (HB3.out.trans (hdr.mono HB3.out.size))
          replace HC3 := Aside0.mk (show wq.drew.heap[ga]? = w3.heap[ga]? ∧ wq.drew.heap[gb]? = w3.heap[gb]? ∧ wq.drew.heap[gx]? = w8.heap[gx]? from HC3.out)
          replace HS3 := Aside0.mk (show w8.heap.size ≤ wq.drew.heap.size from HS3.out)
          have r2 := HBS.out.cell 2
          rw [List.getElem?_cons_succ, List.getElem?_cons_succ, List.getElem?_cons_zero] at r2
          replace q0 : wq.drew.cell? _ = _ := q0
          replace q1 : wq.drew.cell? _ = _ := q1
          replace r2 : wq.drew.cell? _ = _ := r2
          clear hq HBY HBS r0 r1 hdr
          generalize wq.drew = wc at *
          go_upto_if 38 with fail
          go_cut [12, 27] from 27 to 58 (fun v12 v27 wx => v12 = .int .i64 (f : Int) ∧ v27 = .int .i64 (j : Int) ∧ wc = wx)
          case first =>
            by_cases h1 : x0 < y0
            · have h1' : (x0 : Int) < (y0 : Int) := by omega
              obtain rfl : f = y0 := by have := HF.out; omega
              go_wp2_with fail
              go_meet
              exact ⟨rfl, rfl, rfl⟩
            · have h1' : ¬ (x0 : Int) < (y0 : Int) := by omega
              obtain rfl : f = x0 := by have := HF.out; omega
              go_wp2_with fail
              go_meet
              exact ⟨rfl, rfl, rfl⟩
          case rest =>
            obtain ⟨rfl, rfl, rfl⟩ := hcut
            go_upto_if 44 with fail
            go_cut [13, 27] from 27 to 58 (fun v13 v27 wx => v13 = .int .i64 (t : Int) ∧ v27 = .int .i64 (j : Int) ∧ wc = wx)
            case first =>
              by_cases h1 : y1 < x1
              · have h1' : (y1 : Int) < (x1 : Int) := by omega
                obtain rfl : t = y1 := by have := HT.out; omega
                go_wp2_with fail
                go_meet
                exact ⟨rfl, rfl, rfl⟩
              · have h1' : ¬ (y1 : Int) < (x1 : Int) := by omega
                obtain rfl : t = x1 := by have := HT.out; omega
                go_wp2_with fail
                go_meet
                exact ⟨rfl, rfl, rfl⟩
            case rest =>
              obtain ⟨rfl, rfl, rfl⟩ := hcut
              clear q0 q1
              by_cases h3 : f ≤ t
              · have h3' : (f : Int) ≤ (t : Int) := by omega
                have htk := HTK.out
                rw [htk, overI_yes HF.out HT.out h3, List.length_append] at hxl
                have HTL := Aside0.mk (show (overI later (x0, x1, x2) (Rb.take (j + 1)) oi).map toS = (overI later (x0, x1, x2) (Rb.take j) oi).map toS ++ (cutN later f t x2 []).map toS from by rw [htk, overI_yes HF.out HT.out h3, List.map_append])
                have hcut := posternref08_cut.calls (2 * later.length + 1) A2 c2 (later.map toS) (f : Int) (t : Int) (x2 : Int) _ wc (by rw [List.length_map]; exact Kd.C_below HK.out HB3.out) (by rw [List.length_map]; exact hc2) (cut_f hkl HKR.out f t x2 _ (by have := HF.out; have := HT.out; omega) (by have := HT.out; omega) (by omega))
                rw [List.length_map] at hcut
                have HCUT := Aside0.mk hcut
                have hxs : ((overI later (x0, x1, x2) (Rb.take j) oi).map toS).length + ((cutN later f t x2 []).map toS).length ≤ 1114112 := by rw [List.length_map, List.length_map]; omega
                clear hcut htk hxl HTK
                generalize (overI later (x0, x1, x2) (Rb.take j) oi).map toS = xs at HO3 HTL hxs
                generalize (cutN later f t x2 []).map toS = ys at HTL hxs HCUT
                go_wp2_with fail
                refine HCUT.out.mono ?_
                rintro e w9 ⟨vS, rfl, hR9, hb9⟩
                obtain ⟨A9, c9, rfl, hc9, hC9⟩ := Kd.R_reads hR9
                have HY9 := Aside0.mk hC9
                have HO9 := Aside0.mk (Kd.R_below HO3.out hb9)
                have HB9 := Aside0.mk (HB3.out.trans (hb9.mono HB3.out.size))
                have HC9 := Aside0.mk (show w9.heap[ga]? = w3.heap[ga]? ∧ w9.heap[gb]? = w3.heap[gb]? ∧ w9.heap[gx]? = w8.heap[gx]? from ⟨(hb9.block ga (by have := HS3.out; have := HS8.out; omega)).trans HC3.out.1, (hb9.block gb (by have := HS3.out; have := HS8.out; omega)).trans HC3.out.2.1, (hb9.block gx (by have := HS3.out; have := HS8.out; omega)).trans HC3.out.2.2⟩)
                have HS9 := Aside0.mk (show ga < w9.heap.size ∧ gb < w9.heap.size ∧ gx < w9.heap.size ∧ w8.heap.size ≤ w9.heap.size from by have := hb9.size; have := HS3.out; have := HS8.out; omega)
                clear hR9 hb9 hc9 hC9 HCUT HO3 HB3 HC3 HS3 r2
                go_wp2_with (first | ((with_reducible refine gate_builtin (b := .append) (xs := #[.tmp 50, .tmp 56]) rfl ?_); at_builtin; refine Kd.R_append_rows k30 (w0 := w) w.heap.size rfl (.tmp 50) (.tmp 56) 24 30 (.agg #[.int .i64 0, .int .i64 0, .int .i64 0]) 24 rfl Try.underlying24 infoQ' rfl (by decide) (by omega) _ xs ys A9 ys.length c9 (fun k => (k ≠ ga ∧ k ≠ gb) ∧ k ≠ gx) (fun _ => False) rfl (by first | (go_simp; done) | (go_simp; rfl) | rfl) HO9.out HY9.out (fun _ _ h => h) (fun _ h => h.elim) (fun k hk => by have h1 := HS9.out; omega) HB9.out HB9.out.size (by omega) ?_; intro v5 w5 ho5 hb5 hg5 hat5; have HO5 := Aside0.mk ho5; have HB5 := Aside0.mk hb5; have HC5 := Aside0.mk (show (w5.heap[ga]? = w3.heap[ga]? ∧ w5.heap[gb]? = w3.heap[gb]? ∧ w5.heap[gx]? = w8.heap[gx]?) ∧ w8.heap.size ≤ w5.heap.size from ⟨⟨(keep_h2 HO9.out (fun h => h.1.1 rfl) (by have := HS9.out; omega) hg5).trans HC9.out.1, (keep_h2 HO9.out (fun h => h.1.2 rfl) (by have := HS9.out; omega) hg5).trans HC9.out.2.1, (keep_h2 HO9.out (fun h => h.2 rfl) (by have := HS9.out; omega) hg5).trans HC9.out.2.2⟩, by have := HS9.out; have := hg5.size; omega⟩); clear ho5 hb5 hg5 hat5))
                go_roundg (gk - 1)
                case measure => omega
                case rel => exact ⟨j + 1, by omega, by omega, by go_num, ⟨by rw [HTL.out]; exact HO5.out⟩, HB5, HC5⟩
              · have h3' : ¬ (f : Int) ≤ (t : Int) := by omega
                have HTL := Aside0.mk (show overI later (x0, x1, x2) (Rb.take (j + 1)) oi = overI later (x0, x1, x2) (Rb.take j) oi from by rw [HTK.out, overI_no HF.out HT.out h3])
                have HC5 := Aside0.mk (show (wc.heap[ga]? = w3.heap[ga]? ∧ wc.heap[gb]? = w3.heap[gb]? ∧ wc.heap[gx]? = w8.heap[gx]?) ∧ w8.heap.size ≤ wc.heap.size from ⟨HC3.out, HS3.out⟩)
                clear HC3 HS3 hxl HTK r2
                go_wp2
                go_roundg (gk - 1)
                case measure => omega
                case rel => exact ⟨j + 1, by omega, by omega, by go_num, ⟨by rw [HTL.out]; exact HO3.out⟩, HB3, HC5⟩
        · have hlt2' : ¬ (j : Int) < (Rb.length : Int) := by omega
          obtain rfl : j = Rb.length := by omega
          have hO9 := hO.out
          rw [List.take_of_length_le (Nat.le_refl _), ← HST.out] at hO9
          have HO9 := Aside0.mk (Kd.R_mono hO9 (fun _ h => h.1) : Kd.R k30 30 wr w.heap.size (fun k => k ≠ ga ∧ k ≠ gb) _ _)
          have HC9 := Aside0.mk (show (wr.heap[ga]? = w3.heap[ga]? ∧ wr.heap[gb]? = w3.heap[gb]?) ∧ w3.heap.size ≤ wr.heap.size from ⟨⟨hC.out.1.1, hC.out.1.2.1⟩, by have := hC.out.2; have := HS8.out; omega⟩)
          clear hO9 hO hC
          go_wp2_with fail
          go_roundg (gko - 1)
          case measure => omega
          case rel => exact ⟨i + 1, by omega, by omega, by go_num, HO9, hB, HC9⟩
    · have hlt' : ¬ (i : Int) < (Ra.length : Int) := by omega
      obtain rfl : i = Ra.length := by omega
      have hOut := hO.out
      rw [List.take_of_length_le (Nat.le_refl _)] at hOut
      generalize overO later Rb Ra [] = out at *
      obtain ⟨A5, c5, rfl, hc5, hC5⟩ := Kd.R_reads hOut
      rw [List.length_map] at hc5 hC5 ⊢
      have HLE := Aside0.mk (least_calls wr HRISE.out (by omega) hc5 hC5)
      have HBE := hB
      clear hOut hc5 hC5 hO hB hC
      go_wp2_with fail
      refine HLE.out.mono ?_
      rintro e w6 ⟨hb6, A6, c6, rfl, hc6, hC6⟩
      have HF := Aside0.mk (show ListPost w (nz (runsN [] 0 out)) (.returned (.slice A6 (nz (runsN [] 0 out)).length c6)) w6 from ⟨HBE.out.trans (hb6.mono HBE.out.size), A6, c6, rfl, hc6, hC6⟩)
      clear hb6 hc6 hC6 HLE
      generalize (nz (runsN [] 0 out)).length = NL at *
      go_wp2
      go_ret
      exact HF.out

end Go.Proofs.Ytajmbafljncjcaa.PStageOver
