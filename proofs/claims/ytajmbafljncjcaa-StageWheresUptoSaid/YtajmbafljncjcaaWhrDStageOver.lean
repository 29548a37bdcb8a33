/- The document's Where: its walk, by hand. -/
import Derived.Test.YtajmbafljncjcaaSwapDStageOver
import Derived.Test.YtajmbafljncjcaaWhrP
import Derived.Test.YtajmbafljncjcaaOvDStageOver
import Derived.Deep.DeepCutAuto
namespace Go.Proofs.Ytajmbafljncjcaa.PStageOver
open Go.RowKit Go.Proofs.YtajmbafljncjcaaW.PrintWords Go.Proofs.YtajmbafljncjcaaW.PrintLast Go.Proofs.YtajmbafljncjcaaW.PrintMore Go.Proofs.Ytajmbafljncjcaa.Stage Go.Proofs.Ytajmbafljncjcaa.Mp
set_option linter.unusedVariables false
set_option linter.unusedSimpArgs false

theorem over_len {sp R : List (Nat × Nat × Nat)} (i : Nat) : (overW R (sp.take i)).length ≤ (overW R sp).length := by
  conv => rhs; rw [← List.take_append_drop i sp]
  unfold overW
  rw [List.flatMap_append, List.length_append]
  exact Nat.le_add_right _ _
theorem over_step {sp R : List (Nat × Nat × Nat)} (i : Nat) (h : i < sp.length) : overW R (sp.take (i + 1)) = overW R (sp.take i) ++ betwN (sp.getD i z3).1 (sp.getD i z3).2.1 R := by
  unfold overW
  rw [take_q sp i h, List.flatMap_append]
  simp
theorem over_mid {sp R : List (Nat × Nat × Nat)} (i j : Nat) (h : i < sp.length) : (overW R (sp.take i) ++ betwN (sp.getD i z3).1 (sp.getD i z3).2.1 (R.take j)).length ≤ (overW R sp).length := by
  have h1 := over_len (sp := sp) (R := R) (i + 1)
  rw [over_step i h] at h1
  have h2 : (betwN (sp.getD i z3).1 (sp.getD i z3).2.1 (R.take j)).length ≤ (betwN (sp.getD i z3).1 (sp.getD i z3).2.1 R).length := by
    conv => rhs; rw [← List.take_append_drop j R, betwN_append, List.length_append]
    exact Nat.le_add_right _ _
  rw [List.length_append] at h1 ⊢
  omega
theorem R_small {α : Type} {d : Kd α} {e base : Nat} {w : World} {ok : Nat → Prop} {v : Value} {xs : List α} (h : d.R e w base ok v xs) : d.R e w base (fun k => k < w.heap.size) v xs := Kd.R_mono (Kd.R_bound h) fun _ hk => hk.2.2.1
set_option maxRecDepth 100000 in
set_option maxHeartbeats 3200000 in
theorem whered_calls (w : World) {va vb : Option Addr} {qa qb : List (Nat × Nat × Nat)} {Aa Ab : Option Addr} {na ca nb cb : Nat} (ha : Tbl w va qa Aa na ca) (hb : Tbl w vb qb Ab nb cb)
    {As : Option Addr} {cs : Nat} {l : List (Int × Int)} (hs : isSet l = true) (hS : Kd.C k30 w As l.length ((rowsS l).map toS)) :
    Calls Try.prog 41 #[.slice As l.length cs, .slice Aa na ca, .slice Ab nb cb] w (ListPost w (whereN l qa qb)) := by
  obtain ⟨o1, o2, o3, o4, o5, o6, o7⟩ := whereN_ok hs ha.rise hb.rise
  have htil := runsN_ok hb.rise
  have hRl := htil.length
  have htila := runsN_ok ha.rise
  have hRal := htila.length
  have HTA := Aside0.mk ha
  have HTB := Aside0.mk hb
  have HSP := Aside0.mk hS
  have HO1 := Aside0.mk o1
  have HO3' := Aside0.mk o3
  have hll := isSet_len hs
  have hrl : (rowsS l).length = l.length := List.length_map ..
  have HRISE := Aside0.mk (rowsS_rise hs)
  have infoQ' := infoQ
  have hW : whereN l qa qb = bothN (runsN [] 0 qb) (overW (runsN [] 0 qa) (rowsS l)) := rfl
  rw [hW]
  clear hW ha hb hS o1 o3 o5 o6 o7 htil htila hs
  generalize rowsS l = sp at *
  rw [← hrl]
  rw [← hrl] at HSP hll
  clear hrl
  go_enter Try.func41, Try.ntmps41
  go_wp2_with (first | ((with_reducible refine gate_dst (N := 17) rfl ?_); refine Kd.R_lit k30 _ 30 ?hg (N := 17) ?hd (xs := ([] : List S30)) (inner := []) (ok := fun _ => True) (okp := fun _ => True) ?hr ?hp (fun _ hk => hk) trivial (Below.refl _ _) (Nat.le_refl _) (by simp) ?_; (case hd => rfl); (case hg => rfl); (case hr => first | (go_simp; done) | (go_simp; rfl)); (case hp => exact (Reps.none _ _)); intro v1 w1 ho1 hb1 hg1 hn1; clear hg1 hn1; have HO1R := Aside0.mk ho1; have HB1 := Aside0.mk hb1; have HRU := Aside0.mk (HTB.out.below hb1).runsAt; clear ho1 hb1))
  refine HRU.out.mono ?_
  rintro e w2 ⟨hb2, g2, c2, rfl, hg1, hg2, hcell⟩
  have HB2 := Aside0.mk (HB1.out.trans (hb2.mono HB1.out.size))
  have HO2 := Aside0.mk (Kd.R_below (R_ahead HO1R.out hg1) hb2)
  have HCELL := Aside0.mk hcell
  clear hb2 hcell HRU HB1 HO1R hg1
  generalize hR : runsN [] 0 qb = R at *
  generalize hRa : runsN [] 0 qa = Ra at *
  go_wp2
  go_loopg [7, 21] (R.length + 1) (fun k v7 v21 wr => ∃ i : Nat, i ≤ R.length ∧ R.length + 1 - i ≤ k ∧ v21 = .int .i64 (i : Int) ∧ Aside0 (Kd.R k30 30 wr w.heap.size (fun k => k ≠ g2) v7 ((R.take i).map toS)) ∧ Aside0 (Below w.heap.size w wr) ∧ Aside0 (wr.heap[g2]? = w2.heap[g2]? ∧ w2.heap.size ≤ wr.heap.size))
  case atStart => exact ⟨0, by omega, by omega, rfl, HO2, HB2, ⟨rfl, Nat.le_refl _⟩⟩
  case round =>
    obtain ⟨i, hi, hk, rfl, hO, hB, hC⟩ := hrel
    clear HO2 HB2
    by_cases hlt : i < R.length
    · have hlt' : (i : Int) < (R.length : Int) := by omega
      obtain ⟨c0, c1, c2'⟩ := HCELL.out wr i hlt hC.out.1
      have HTK := Aside0.mk (congrArg (List.map toS) (take_q R i hlt))
      have hxl : ((R.take i).map toS).length ≤ 1114112 := by rw [List.length_map, List.length_take]; omega
      obtain ⟨wo, rfl⟩ : ∃ x, x = wr := ⟨_, rfl⟩
      rw [List.map_append, List.map_singleton] at HTK
      generalize (R.take i).map toS = xs at hO hxl HTK
      generalize R.getD i z3 = x at c0 c1 c2' HTK
      obtain ⟨x0, x1, x2⟩ := x
      simp only at c0 c1 c2'
      have HO3 := Aside0.mk (Kd.R_alloc hO.out (.cells #[.int .i64 (x0 : Int), .int .i64 (x1 : Int), .int .i64 (x2 : Int)] 30))
      have HB3 := Aside0.mk (below_alloc hB.out (.cells #[.int .i64 (x0 : Int), .int .i64 (x1 : Int), .int .i64 (x2 : Int)] 30))
      have HC3 := Aside0.mk (show (wo.alloc (.cells #[.int .i64 (x0 : Int), .int .i64 (x1 : Int), .int .i64 (x2 : Int)] 30)).heap[g2]? = w2.heap[g2]? ∧ w2.heap.size ≤ wo.heap.size from ⟨(Below.heap_alloc wo _ g2 (by have := hC.out.2; omega)).trans hC.out.1, hC.out.2⟩)
      clear hO hB hC
      go_wp2_with (first | ((with_reducible refine gate_builtin (b := .append) (xs := #[.tmp 25, .tmp 33]) rfl ?_); at_builtin; refine Kd.R_append k30 (w0 := w) w.heap.size rfl (.tmp 25) (.tmp 33) 24 30 (.agg #[.int .i64 0, .int .i64 0, .int .i64 0]) 24 rfl Try.underlying24 infoQ' rfl (by decide) (by omega) _ xs (toS (x0,x1,x2)) [.int .i64 (x0 : Int), .int .i64 (x1 : Int), .int .i64 (x2 : Int)] (fun k => k ≠ g2) (fun _ => False) rfl (by first | (go_simp; done) | (go_simp; rfl)) (k30_mkM _ _ _ (toS (x0,x1,x2))) (fun _ hk => hk.elim) (fun k hk e => by have h1 := HC3.out.2; rw [alloc_size] at hk; omega) HO3.out HB3.out HB3.out.size (by omega) ?_; intro v5 w5 ho5 hb5 hg5 hat5; have HO5 := Aside0.mk ho5; have HB5 := Aside0.mk hb5; have HC5 := Aside0.mk (keep_g2 HO3.out HC3.out hg2 hg5); clear ho5 hb5 hg5 hat5))
      go_roundg (gk - 1)
      case measure => omega
      case rel => exact ⟨i + 1, by omega, by omega, by go_num, ⟨by rw [HTK.out]; exact HO5.out⟩, HB5, HC5⟩
    · have hlt' : ¬ (i : Int) < (R.length : Int) := by omega
      obtain rfl : i = R.length := by omega
      have hOut := hO.out
      rw [List.take_of_length_le (Nat.le_refl _)] at hOut
      obtain ⟨A5, c5, rfl, hc5, hC5⟩ := Kd.R_reads hOut
      rw [List.length_map] at hc5 hC5 ⊢
      have HOUT := Aside0.mk hC5
      have HCAP := Aside0.mk hc5
      have HBW := hB
      obtain ⟨W3, rfl⟩ : ∃ x, x = wr := ⟨_, rfl⟩
      clear hOut hc5 hC5 hO hB hC HCELL
      go_wp2_with (first | ((with_reducible refine gate_dst (N := 36) rfl ?_); refine Kd.R_lit k30 _ 30 ?hg (N := 36) ?hd (xs := ([] : List S30)) (inner := []) (ok := fun _ => True) (okp := fun _ => True) ?hr ?hp (fun _ hk => hk) trivial (Below.refl _ _) (Nat.le_refl _) (by simp) ?_; (case hd => rfl); (case hg => rfl); (case hr => first | (go_simp; done) | (go_simp; rfl)); (case hp => exact (Reps.none _ _)); intro v6 w6 ho1 hb1 hg1 hn1; clear hg1 hn1; have HO6 := Aside0.mk ho1; have HB6 := Aside0.mk hb1; clear ho1 hb1))
      go_loopg [10, 39] (sp.length + 1) (fun k v10 v39 wr => ∃ i : Nat, i ≤ sp.length ∧ sp.length + 1 - i ≤ k ∧ v39 = .int .i64 (i : Int) ∧ Aside0 (Kd.R k30 30 wr W3.heap.size (fun _ => True) v10 ((overW Ra (sp.take i)).map toS)) ∧ Aside0 (Below W3.heap.size W3 wr))
      case atStart => exact ⟨0, by omega, by omega, rfl, HO6, HB6⟩
      case round =>
        obtain ⟨i, hi, hk, rfl, hO, hB⟩ := hrel
        clear HO6 HB6
        by_cases hlt : i < sp.length
        · have hlt' : (i : Int) < (sp.length : Int) := by omega
          obtain ⟨ad, rfl, k0, k1, k2⟩ := at_Q (Kd.C_below (Kd.C_below HSP.out HBW.out) hB.out) i hlt
          obtain ⟨gko, rfl⟩ : ∃ n, n = gk := ⟨_, rfl⟩
          obtain ⟨W4, rfl⟩ : ∃ x, x = wr := ⟨_, rfl⟩
          have hst := over_step (R := Ra) i hlt
          have hmid := fun j => over_mid (R := Ra) i j hlt
          have hS := HRISE.out
          generalize hsx : sp.getD i z3 = x at k0 k1 k2 hst hmid
          obtain ⟨s0, s1, s2⟩ := x
          simp only at k0 k1 k2 hst hmid
          have HST := Aside0.mk hst
          have HMID := Aside0.mk hmid
          have HBX := Aside0.mk (blk_new W4 [.int .i64 (s0 : Int), .int .i64 (s1 : Int), .int .i64 (s2 : Int)] 30)
          have HO7 := Aside0.mk (Kd.R_alloc (R_small hO.out) (.cells #[.int .i64 (s0 : Int), .int .i64 (s1 : Int), .int .i64 (s2 : Int)] 30))
          have HB7 := Aside0.mk (below_alloc hB.out (.cells #[.int .i64 (s0 : Int), .int .i64 (s1 : Int), .int .i64 (s2 : Int)] 30))
          have HRU := Aside0.mk ((HTA.out.below (HBW.out.trans (HB7.out.mono HBW.out.size))).runsAt)
          rw [hRa] at HRU
          clear hst hmid hS hsx hO hB
          go_wp2_with fail
          refine HRU.out.mono ?_
          rintro e w8 ⟨hb8, g3, c3, rfl, hg3, hg3', hcell3⟩
          have HB8 := Aside0.mk (HB7.out.trans (hb8.mono HB7.out.size))
          have HX8 := Aside0.mk (show Blk w8 W4.heap.size _ _ from (hb8.block _ HBX.out.lt).trans HBX.out)
          have hbx : W4.heap.size < w8.heap.size := by have := HBX.out.lt; have := hb8.size; omega
          have hgx : W4.heap.size < g3 := by have := HBX.out.lt; omega
          have HO8 := Aside0.mk (show Kd.R k30 30 w8 W3.heap.size (fun k => k ≠ g3 ∧ k ≠ W4.heap.size) _ ((overW Ra (sp.take i)).map toS) from Kd.R_mono (Kd.R_below HO7.out hb8) (fun k hk => by omega))
          have HCELL := Aside0.mk hcell3
          clear hb8 hcell3 HRU HBX HO7 HB7 k0 k1 k2
          go_wp2
          go_loopg [10, 46] (Ra.length + 1) (fun k v10 v46 wr => ∃ j : Nat, j ≤ Ra.length ∧ Ra.length + 1 - j ≤ k ∧ v46 = .int .i64 (j : Int) ∧ Aside0 (Kd.R k30 30 wr W3.heap.size (fun k => k ≠ g3 ∧ k ≠ W4.heap.size) v10 ((overW Ra (sp.take i) ++ betwN s0 s1 (Ra.take j)).map toS)) ∧ Aside0 (Below W3.heap.size W3 wr) ∧ Aside0 ((wr.heap[g3]? = w8.heap[g3]? ∧ wr.heap[W4.heap.size]? = w8.heap[W4.heap.size]?) ∧ w8.heap.size ≤ wr.heap.size))
          case atStart => exact ⟨0, by omega, by omega, rfl, ⟨by have := HO8.out; rw [show betwN s0 s1 (Ra.take 0) = [] from rfl, List.append_nil]; exact this⟩, HB8, ⟨⟨rfl, rfl⟩, Nat.le_refl _⟩⟩
          case round =>
            obtain ⟨j, hj, hjk, rfl, hO, hB, hC⟩ := hrel
            clear HO8 HB8
            by_cases hlt2 : j < Ra.length
            · have hlt2' : (j : Int) < (Ra.length : Int) := by omega
              obtain ⟨c0, c1, c2'⟩ := HCELL.out wr j hlt2 hC.out.1.1
              have htk := congrArg (betwN s0 s1) (take_q Ra j hlt2)
              rw [betwN_append] at htk
              have hxl : ((overW Ra (sp.take i) ++ betwN s0 s1 (Ra.take j)).map toS).length ≤ 1114112 := by have := HMID.out j; rw [List.length_map]; omega
              have HTK := Aside0.mk (show (overW Ra (sp.take i) ++ betwN s0 s1 (Ra.take (j + 1))).map toS = (overW Ra (sp.take i) ++ betwN s0 s1 (Ra.take j)).map toS ++ (betwN s0 s1 [Ra.getD j z3]).map toS from by rw [htk, ← List.append_assoc, List.map_append])
              generalize (overW Ra (sp.take i) ++ betwN s0 s1 (Ra.take j)).map toS = xs at hO hxl HTK
              generalize Ra.getD j z3 = x at c0 c1 c2' HTK
              obtain ⟨x0, x1, x2⟩ := x
              simp only at c0 c1 c2'
              obtain ⟨wo, rfl⟩ : ∃ x, x = wr := ⟨_, rfl⟩
              have hBX := blk_new wo [.int .i64 (x0 : Int), .int .i64 (x1 : Int), .int .i64 (x2 : Int)] 30
              have HBS := Aside0.mk (show Blk (wo.alloc (.cells #[.int .i64 (x0 : Int), .int .i64 (x1 : Int), .int .i64 (x2 : Int)] 30)) W4.heap.size _ _ from ((show Blk wo W4.heap.size _ _ from hC.out.1.2.trans HX8.out).alloc (.cells #[.int .i64 (x0 : Int), .int .i64 (x1 : Int), .int .i64 (x2 : Int)] 30)))
              have HBX := Aside0.mk hBX
              have HO3 := Aside0.mk (Kd.R_alloc hO.out (.cells #[.int .i64 (x0 : Int), .int .i64 (x1 : Int), .int .i64 (x2 : Int)] 30))
              have HB3 := Aside0.mk (below_alloc hB.out (.cells #[.int .i64 (x0 : Int), .int .i64 (x1 : Int), .int .i64 (x2 : Int)] 30))
              have HC3 := Aside0.mk (show (wo.alloc (.cells #[.int .i64 (x0 : Int), .int .i64 (x1 : Int), .int .i64 (x2 : Int)] 30)).heap[g3]? = w8.heap[g3]? ∧ (wo.alloc (.cells #[.int .i64 (x0 : Int), .int .i64 (x1 : Int), .int .i64 (x2 : Int)] 30)).heap[W4.heap.size]? = w8.heap[W4.heap.size]? from ⟨(Below.heap_alloc wo _ g3 (by have := hC.out.2; omega)).trans hC.out.1.1, (Below.heap_alloc wo _ _ (by have := hC.out.2; omega)).trans hC.out.1.2⟩)
              have HS3 := Aside0.mk (show w8.heap.size ≤ wo.heap.size ∧ wo.heap.size < (wo.alloc (.cells #[.int .i64 (x0 : Int), .int .i64 (x1 : Int), .int .i64 (x2 : Int)] 30)).heap.size ∧ g3 < w8.heap.size ∧ W4.heap.size < w8.heap.size from ⟨hC.out.2, by rw [alloc_size]; omega, hg3', hbx⟩)
              clear htk hBX hO hB hC
              obtain ⟨f, hf⟩ : ∃ f, f = max x0 s0 := ⟨_, rfl⟩
              obtain ⟨t, ht⟩ : ∃ t, t = min x1 s1 := ⟨_, rfl⟩
              have HF := Aside0.mk hf
              have HT := Aside0.mk ht
              clear hf ht
              have q0 := HBX.out.cell 0
              have q1 := HBX.out.cell 1
              have r0 := HBS.out.cell 0
              have r1 := HBS.out.cell 1
              rw [List.getElem?_cons_zero] at q0 r0
              rw [List.getElem?_cons_succ, List.getElem?_cons_zero] at q1 r1
              go_upto_region 14 with fail
              generalize hq : wo.alloc (.cells #[.int .i64 (x0 : Int), .int .i64 (x1 : Int), .int .i64 (x2 : Int)] 30) = wq at *
              generalize wo.heap.size = gx at *
              go_region
              have hdr : Below wq.heap.size wq wq.drew := ⟨rfl, rfl, rfl, Nat.le_refl _, fun _ _ => rfl⟩
              replace HO3 := Aside0.mk (Kd.R_below HO3.out hdr)
              replace HB3 := Aside0.mk (HB3.out.trans (hdr.mono HB3.out.size))
              replace HC3 := Aside0.mk (show wq.drew.heap[g3]? = w8.heap[g3]? ∧ wq.drew.heap[W4.heap.size]? = w8.heap[W4.heap.size]? from HC3.out)
              replace HS3 := Aside0.mk (show w8.heap.size ≤ gx ∧ gx < wq.drew.heap.size ∧ g3 < w8.heap.size ∧ W4.heap.size < w8.heap.size from HS3.out)
              have q2 := HBX.out.cell 2
              rw [List.getElem?_cons_succ, List.getElem?_cons_succ, List.getElem?_cons_zero] at q2
              replace r0 : wq.drew.cell? _ = _ := r0
              replace r1 : wq.drew.cell? _ = _ := r1
              replace q2 : wq.drew.cell? _ = _ := q2
              clear hq HBX HBS q0 q1 hdr
              generalize wq.drew = wc at *
              go_upto_if 57 with fail
              go_cut [15, 46] from 46 to 77 (fun v15 v46 wx => v15 = .int .i64 (f : Int) ∧ v46 = .int .i64 (j : Int) ∧ wc = wx)
              case first =>
                by_cases h1 : x0 < s0
                · have h1' : (x0 : Int) < (s0 : Int) := by omega
                  obtain rfl : f = s0 := by have := HF.out; omega
                  go_wp2_with fail
                  go_meet
                  exact ⟨rfl, rfl, rfl⟩
                · have h1' : ¬ (x0 : Int) < (s0 : Int) := by omega
                  obtain rfl : f = x0 := by have := HF.out; omega
                  go_wp2_with fail
                  go_meet
                  exact ⟨rfl, rfl, rfl⟩
              case rest =>
                obtain ⟨rfl, rfl, rfl⟩ := hcut
                go_upto_if 63 with fail
                go_cut [16, 46] from 46 to 77 (fun v16 v46 wx => v16 = .int .i64 (t : Int) ∧ v46 = .int .i64 (j : Int) ∧ wc = wx)
                case first =>
                  by_cases h1 : s1 < x1
                  · have h1' : (s1 : Int) < (x1 : Int) := by omega
                    obtain rfl : t = s1 := by have := HT.out; omega
                    go_wp2_with fail
                    go_meet
                    exact ⟨rfl, rfl, rfl⟩
                  · have h1' : ¬ (s1 : Int) < (x1 : Int) := by omega
                    obtain rfl : t = x1 := by have := HT.out; omega
                    go_wp2_with fail
                    go_meet
                    exact ⟨rfl, rfl, rfl⟩
                case rest =>
                  obtain ⟨rfl, rfl, rfl⟩ := hcut
                  clear r0 r1
                  by_cases h3 : f ≤ t
                  · have h3' : (f : Int) ≤ (t : Int) := by omega
                    rw [betwN_yes HF.out HT.out h3] at HTK
                    go_wp2_with (first | ((with_reducible refine gate_builtin (b := .append) (xs := #[.tmp 69, .tmp 75]) rfl ?_); at_builtin; refine Kd.R_append k30 (w0 := W3) W3.heap.size rfl (.tmp 69) (.tmp 75) 24 30 (.agg #[.int .i64 0, .int .i64 0, .int .i64 0]) 24 rfl Try.underlying24 infoQ' rfl (by decide) (by omega) _ xs (toS (f, t, x2)) [.int .i64 (f : Int), .int .i64 (t : Int), .int .i64 (x2 : Int)] (fun k => k ≠ g3 ∧ k ≠ W4.heap.size) (fun _ => False) rfl (by first | (go_simp; done) | (go_simp; rfl)) (k30_mkM _ _ _ (toS (f, t, x2))) (fun _ hk => hk.elim) (fun k hk => by have h1 := HS3.out; constructor <;> omega) HO3.out HB3.out HB3.out.size (by omega) ?_; intro v5 w5 ho5 hb5 hg5 hat5; have HO5 := Aside0.mk ho5; have HB5 := Aside0.mk hb5; have HC5 := Aside0.mk (show (w5.heap[g3]? = w8.heap[g3]? ∧ w5.heap[W4.heap.size]? = w8.heap[W4.heap.size]?) ∧ w8.heap.size ≤ w5.heap.size from ⟨⟨(keep_h2 HO3.out (fun h => h.1 rfl) (by have := HS3.out; omega) hg5).trans HC3.out.1, (keep_h2 HO3.out (fun h => h.2 rfl) (by have := HS3.out; omega) hg5).trans HC3.out.2⟩, by have := HS3.out; have := hg5.size; omega⟩); clear ho5 hb5 hg5 hat5))
                    go_roundg (gk - 1)
                    case measure => omega
                    case rel => exact ⟨j + 1, by omega, by omega, by go_num, ⟨by rw [HTK.out]; exact HO5.out⟩, HB5, HC5⟩
                  · have h3' : ¬ (f : Int) ≤ (t : Int) := by omega
                    rw [betwN_no HF.out HT.out h3, List.map_nil, List.append_nil] at HTK
                    have HC5 := Aside0.mk (show (wc.heap[g3]? = w8.heap[g3]? ∧ wc.heap[W4.heap.size]? = w8.heap[W4.heap.size]?) ∧ w8.heap.size ≤ wc.heap.size from ⟨HC3.out, by have := HS3.out; omega⟩)
                    clear HC3 HS3
                    go_wp2
                    go_roundg (gk - 1)
                    case measure => omega
                    case rel => exact ⟨j + 1, by omega, by omega, by go_num, ⟨by rw [HTK.out]; exact HO3.out⟩, HB3, HC5⟩
            · have hlt2' : ¬ (j : Int) < (Ra.length : Int) := by omega
              obtain rfl : j = Ra.length := by omega
              have hO9 := hO.out
              rw [List.take_of_length_le (Nat.le_refl _), ← HST.out] at hO9
              have HO9 := Aside0.mk (Kd.R_mono hO9 (fun _ _ => trivial) : Kd.R k30 30 wr W3.heap.size (fun _ => True) _ _)
              clear hO9 hO hC
              go_wp2_with fail
              go_roundg (gko - 1)
              case measure => omega
              case rel => exact ⟨i + 1, by omega, by omega, by go_num, HO9, hB⟩
        · have hlt' : ¬ (i : Int) < (sp.length : Int) := by omega
          obtain rfl : i = sp.length := by omega
          have hOut := hO.out
          rw [List.take_of_length_le (Nat.le_refl _)] at hOut
          obtain ⟨A9, c9, rfl, hc9, hC9⟩ := Kd.R_reads hOut
          rw [List.length_map] at hc9 hC9 ⊢
          have HOV := Aside0.mk (overd_calls wr HO1.out HO3'.out o2 o4 (Kd.C_below HOUT.out hB.out) HCAP.out hC9 hc9)
          clear hOut hc9 hC9 hO
          go_wp2_with fail
          refine HOV.out.mono ?_
          rintro e wz ⟨hbz, Az, cz, rfl, hz1, hz2⟩
          have HF := Aside0.mk (show ListPost w (bothN R (overW Ra sp)) (.returned (.slice Az (bothN R (overW Ra sp)).length cz)) wz from ⟨(HBW.out.trans (hB.out.mono HBW.out.size)).trans (hbz.mono (HBW.out.trans (hB.out.mono HBW.out.size)).size), Az, cz, rfl, hz1, hz2⟩)
          clear hz1 hz2 hbz HOV hB
          generalize (bothN R (overW Ra sp)).length = NL at *
          go_wp2
          go_ret
          exact HF.out

end Go.Proofs.Ytajmbafljncjcaa.PStageOver
