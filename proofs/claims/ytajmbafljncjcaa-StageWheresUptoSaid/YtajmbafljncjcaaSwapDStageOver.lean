/- The document's Swap and Between: their walks (by hand), and what they come to. -/
import Derived.Test.YtajmbafljncjcaaStoreVStageOver
import Derived.Test.YtajmbafljncjcaaSwapA
namespace Go.Proofs.Ytajmbafljncjcaa.PStageOver
open Go.RowKit Go.Proofs.YtajmbafljncjcaaW.PrintWords Go.Proofs.YtajmbafljncjcaaW.PrintLast Go.Proofs.YtajmbafljncjcaaW.PrintMore Go.Proofs.Ytajmbafljncjcaa.Stage Go.Proofs.Ytajmbafljncjcaa.Mp
set_option linter.unusedVariables false
set_option linter.unusedSimpArgs false

theorem infoQ : (Try.prog.info? 30).map (fun i => (i.zero, i.size, i.bytes)) = some (some (.agg #[(.int .i64 0), (.int .i64 0), (.int .i64 0)]), 3, 24) := by kernel_rfl
theorem Tbl.runs {w : World} {v : Option Addr} {q : List (Nat × Nat × Nat)} {A : Option Addr} {n c : Nat} (h : Tbl w v q A n c) : Calls Try.prog 16 #[.slice A n c] w fun e W' => Below w.heap.size w W' ∧ ∃ A c, e = .returned (.slice A (runsN [] 0 q).length c) ∧ (runsN [] 0 q).length ≤ c ∧ Kd.C k30 W' A (runsN [] 0 q).length ((runsN [] 0 q).map toS) := by
  have := h.asked.runs w (Below.refl _ _)
  rwa [h.len] at this

def ListPost (w : World) (N : List (Nat × Nat × Nat)) (e : Ending) (w' : World) : Prop := Below w.heap.size w w' ∧ ∃ A c, e = .returned (.slice A N.length c) ∧ N.length ≤ c ∧ Kd.C k30 w' A N.length (N.map toS)
theorem least_calls (w : World) {q : List (Nat × Nat × Nat)} (hr : RiseN 0 q) (hl : q.length ≤ 1114112) {A : Option Addr} {c : Nat} (hc : q.length ≤ c) (hC : Kd.C k30 w A q.length (q.map toS)) :
    Calls Try.prog 24 #[.slice A q.length c] w (ListPost w (nz (runsN [] 0 q))) := by
  have h := posternref08_Least.calls (2 * q.length + 3) A c (q.map toS) _ w (by rw [List.length_map]; exact hC) (by rw [List.length_map]; exact hc) (least_f hl hr)
  rw [List.length_map] at h
  refine h.mono ?_
  rintro e w' ⟨vS, rfl, hR, hb⟩
  obtain ⟨A, c, rfl, h1, h2⟩ := Kd.R_reads hR
  rw [List.length_map] at h1 h2 ⊢
  exact ⟨hb, A, c, rfl, h1, h2⟩
theorem R_cellsQ {w : World} {base : Nat} {ok : Nat → Prop} {g n c : Nat} {q : List (Nat × Nat × Nat)} (h : Kd.R k30 30 w base ok (.slice (some ⟨g, 0, none⟩) n c) (q.map toS)) (i : Nat) (hi : i < q.length) :
    w.cell? ⟨g, i * 3, none⟩ = some (.int .i64 ((q.getD i z3).1 : Nat)) ∧ w.cell? ⟨g, i * 3 + 1, none⟩ = some (.int .i64 ((q.getD i z3).2.1 : Nat)) ∧ w.cell? ⟨g, i * 3 + 2, none⟩ = some (.int .i64 ((q.getD i z3).2.2 : Nat)) := by
  obtain ⟨A', c', hv, _, hC⟩ := Kd.R_reads h
  injection hv with e1 e2 e3
  subst e1
  rw [List.length_map] at hC
  obtain ⟨ad, e4, k0, k1, k2⟩ := at_Q hC i hi
  cases e4
  rw [Addr.add_lit] at k0 k1 k2
  simp only [Nat.zero_add] at k0 k1 k2
  exact ⟨k0, k1, k2⟩
/-- The stretches, and where they lie: a block of their own, which nothing else writes. -/
def RunsAt (w : World) (R : List (Nat × Nat × Nat)) (e : Ending) (w' : World) : Prop := Below w.heap.size w w' ∧ ∃ g c, e = .returned (.slice (some ⟨g, 0, none⟩) R.length c) ∧ w.heap.size ≤ g ∧ g < w'.heap.size ∧
  ∀ (W : World) (i : Nat), i < R.length → W.heap[g]? = w'.heap[g]? → W.cell? ⟨g, i * 3, none⟩ = some (.int .i64 ((R.getD i z3).1 : Nat)) ∧ W.cell? ⟨g, i * 3 + 1, none⟩ = some (.int .i64 ((R.getD i z3).2.1 : Nat)) ∧ W.cell? ⟨g, i * 3 + 2, none⟩ = some (.int .i64 ((R.getD i z3).2.2 : Nat))
theorem runsN_pos {q : List (Nat × Nat × Nat)} (h : RiseN 0 q) : 0 < (runsN [] 0 q).length := by
  have := runsN_ok h
  cases e : runsN [] 0 q with
  | nil => rw [e] at this; have : (0 : Nat) = 1114112 := this; omega
  | cons x l => simp
theorem runs_at {w : World} {q : List (Nat × Nat × Nat)} (hr : RiseN 0 q) (hl : q.length ≤ 1114112) {A : Option Addr} {c : Nat} (hC : Kd.C k30 w A q.length (q.map toS)) (hc : q.length ≤ c) : Calls Try.prog 16 #[.slice A q.length c] w (RunsAt w (runsN [] 0 q)) := by
  have hc := posternref08_Runs.calls (q.length + 1) A c (q.map toS) _ w (by rw [List.length_map]; exact hC) (by rw [List.length_map]; exact hc) (runs_f hl hr)
  rw [List.length_map] at hc
  refine hc.mono ?_
  rintro e w' ⟨vS, rfl, hR, hb⟩
  have hpos := runsN_pos hr
  obtain ⟨A2, c2, hv⟩ := Kd.R_slice hR
  rw [List.length_map] at hv
  subst hv
  obtain ⟨g, cells, rfl, hcells, hbase⟩ := R_head hR (by rw [List.length_map]; exact hpos)
  refine ⟨hb, g, c2, rfl, hbase, (Array.getElem?_eq_some_iff.1 hcells).1, fun W i hi hW => ?_⟩
  obtain ⟨k0, k1, k2⟩ := R_cellsQ hR i hi
  exact ⟨(World.cell?_of_block (a := ⟨g, i * 3, none⟩) hW).trans k0, (World.cell?_of_block (a := ⟨g, i * 3 + 1, none⟩) hW).trans k1, (World.cell?_of_block (a := ⟨g, i * 3 + 2, none⟩) hW).trans k2⟩
theorem Tbl.runsAt {w : World} {v : Option Addr} {q : List (Nat × Nat × Nat)} {A : Option Addr} {n c : Nat} (h : Tbl w v q A n c) : Calls Try.prog 16 #[.slice A n c] w (RunsAt w (runsN [] 0 q)) := by
  have := runs_at h.rise h.few h.mem h.cap
  rwa [h.len] at this
theorem keep_g2 {α : Type} {d : Kd α} {e base g2 : Nat} {wo w5 w2 : World} {o : Obj} {v : Value} {xs : List α} (h : d.R e (wo.alloc o) base (fun k => k ≠ g2) v xs) (hC : (wo.alloc o).heap[g2]? = w2.heap[g2]? ∧ w2.heap.size ≤ wo.heap.size) (hg2 : g2 < w2.heap.size) (hg : (wo.alloc o).grownBy w5 v.ownBlock) : w5.heap[g2]? = w2.heap[g2]? ∧ w2.heap.size ≤ w5.heap.size := by
  have hs := hg.size
  rw [alloc_size] at hs
  exact ⟨(hg.block g2 (by rw [alloc_size]; omega) (fun e => h.1 g2 e.symm rfl)).trans hC.1, by omega⟩
/-- A row that was made ahead of a block is not that block. -/
theorem R_ahead {α : Type} {d : Kd α} {e base g : Nat} {w : World} {ok : Nat → Prop} {v : Value} {xs : List α} (h : d.R e w base ok v xs) (hg : w.heap.size ≤ g) : d.R e w base (fun k => k ≠ g) v xs :=
  Kd.R_mono (Kd.R_bound h) (fun k hk => by omega)
theorem swapR_at {q : List (Nat × Nat × Nat)} {n m i : Nat} (hi : i < (runsN [] 0 q).length) : (swapR n m q).getD i z3 = (((runsN [] 0 q).getD i z3).1, ((runsN [] 0 q).getD i z3).2.1, if ((runsN [] 0 q).getD i z3).2.2 = n then m else ((runsN [] 0 q).getD i z3).2.2) := by
  unfold swapR
  simp only [List.getD_eq_getElem?_getD, List.getElem?_map, List.getElem?_eq_getElem hi, Option.map_some, Option.getD_some]

set_option maxRecDepth 100000 in
set_option maxHeartbeats 1600000 in
theorem swapd_calls (w : World) {v : Option Addr} {q : List (Nat × Nat × Nat)} {A : Option Addr} {n c : Nat} (h : Tbl w v q A n c) (a b : Nat) (hb : b ≤ 65535) :
    Calls Try.prog 35 #[.slice A n c, .int .i64 (a : Int), .int .i64 (b : Int)] w (ListPost w (nz (runsN [] 0 (swapR a b q)))) := by
  obtain ⟨k1, k2, k3, k4, k5⟩ := swapR_ok h.rise a b hb
  have htil := runsN_ok h.rise
  have hRl := htil.length
  have HTB := Aside0.mk h
  have HK1 := Aside0.mk k1
  have hsl : (swapR a b q).length = (runsN [] 0 q).length := List.length_map ..
  have HAT := Aside0.mk (fun i hi => swapR_at (q := q) (n := a) (m := b) (i := i) hi)
  have HNUM := Aside0.mk (fun i hi => by
    have := htil.mem ((runsN [] 0 q).getD i z3) (by rw [List.getD_eq_getElem?_getD, List.getElem?_eq_getElem hi]; exact List.getElem_mem hi)
    omega : ∀ i, i < (runsN [] 0 q).length → ((runsN [] 0 q).getD i z3).1 ≤ 1114111 ∧ ((runsN [] 0 q).getD i z3).2.1 ≤ 1114111)
  have HSL := Aside0.mk hsl
  have infoQ' := infoQ
  clear h k1 k2 k3 k5 htil hsl
  go_enter Try.func35, Try.ntmps35
  go_wp2_with (first | ((with_reducible refine gate_dst (N := 10) rfl ?_); refine Kd.R_lit k30 _ 30 ?hg (N := 10) ?hd (xs := ([] : List S30)) (inner := []) (ok := fun _ => True) (okp := fun _ => True) ?hr ?hp (fun _ hk => hk) trivial (Below.refl _ _) (Nat.le_refl _) (by simp) ?_; (case hd => rfl); (case hg => rfl); (case hr => first | (go_simp; done) | (go_simp; rfl)); (case hp => exact (Reps.none _ _)); intro v1 w1 ho1 hb1 hg1 hn1; clear hg1 hn1; have HO1 := Aside0.mk ho1; have HB1 := Aside0.mk hb1; have HRU := Aside0.mk (HTB.out.below hb1).runsAt; clear ho1 hb1))
  refine HRU.out.mono ?_
  rintro e w2 ⟨hb2, g2, c2, rfl, hg1, hg2, hcell⟩
  have HB2 := Aside0.mk (HB1.out.trans (hb2.mono HB1.out.size))
  have HO2 := Aside0.mk (Kd.R_below (R_ahead HO1.out hg1) hb2)
  have HCELL := Aside0.mk hcell
  clear hb2 hcell HRU HB1 HO1 HTB hg1
  generalize runsN [] 0 q = R at *
  generalize swapR a b q = out at *
  go_wp2
  go_loopg [7, 14] (R.length + 1) (fun k v7 v14 wr => ∃ i : Nat, i ≤ R.length ∧ R.length + 1 - i ≤ k ∧ v14 = .int .i64 (i : Int) ∧ Aside0 (Kd.R k30 30 wr w.heap.size (fun k => k ≠ g2) v7 ((out.take i).map toS)) ∧ Aside0 (Below w.heap.size w wr) ∧ Aside0 (wr.heap[g2]? = w2.heap[g2]? ∧ w2.heap.size ≤ wr.heap.size))
  case atStart => exact ⟨0, by omega, by omega, rfl, HO2, HB2, ⟨rfl, Nat.le_refl _⟩⟩
  case round =>
    obtain ⟨i, hi, hk, rfl, hO, hB, hC⟩ := hrel
    clear HO2 HB2
    by_cases hlt : i < R.length
    · have hlt' : (i : Int) < (R.length : Int) := by omega
      obtain ⟨c0, c1, c2'⟩ := HCELL.out wr i hlt hC.out.1
      have hat := HAT.out i hlt
      have htk := take_q out i (by rw [HSL.out]; exact hlt)
      rw [hat] at htk
      have HTK := Aside0.mk (congrArg (List.map toS) htk)
      have hxl : ((out.take i).map toS).length ≤ 1114112 := by rw [List.length_map, List.length_take]; omega
      obtain ⟨wo, rfl⟩ : ∃ x, x = wr := ⟨_, rfl⟩
      rw [List.map_append, List.map_singleton] at HTK
      generalize (out.take i).map toS = xs at hO hxl HTK
      by_cases hx : (R.getD i z3).2.2 = a
      · rw [if_pos hx] at HTK
        rw [hx] at c2'
        generalize (R.getD i z3).1 = x0 at c0 HTK
        generalize (R.getD i z3).2.1 = x1 at c1 HTK
        have HO3 := Aside0.mk (Kd.R_alloc hO.out (.cells #[.int .i64 (x0 : Int), .int .i64 (x1 : Int), .int .i64 (b : Int)] 30))
        have HB3 := Aside0.mk (below_alloc hB.out (.cells #[.int .i64 (x0 : Int), .int .i64 (x1 : Int), .int .i64 (b : Int)] 30))
        have HC3 := Aside0.mk (show (wo.alloc (.cells #[.int .i64 (x0 : Int), .int .i64 (x1 : Int), .int .i64 (b : Int)] 30)).heap[g2]? = w2.heap[g2]? ∧ w2.heap.size ≤ wo.heap.size from ⟨(Below.heap_alloc wo _ g2 (by have := hC.out.2; omega)).trans hC.out.1, hC.out.2⟩)
        clear hat htk hx hO hB hC
        go_wp2_with (first | ((with_reducible refine gate_builtin (b := .append) (xs := #[.tmp 24, .tmp 26]) rfl ?_); at_builtin; refine Kd.R_append k30 (w0 := w) w.heap.size rfl (.tmp 24) (.tmp 26) 24 30 (.agg #[.int .i64 0, .int .i64 0, .int .i64 0]) 24 rfl Try.underlying24 infoQ' rfl (by decide) (by omega) _ xs (toS (x0,x1,b)) [.int .i64 (x0 : Int), .int .i64 (x1 : Int), .int .i64 (b : Int)] (fun k => k ≠ g2) (fun _ => False) rfl (by first | (go_simp; done) | (go_simp; rfl)) (k30_mkM _ _ _ (toS (x0,x1,b))) (fun _ hk => hk.elim) (fun k hk e => by have h1 := HC3.out.2; rw [alloc_size] at hk; omega) HO3.out HB3.out HB3.out.size (by omega) ?_; intro v5 w5 ho5 hb5 hg5 hat5; have HO5 := Aside0.mk ho5; have HB5 := Aside0.mk hb5; have HC5 := Aside0.mk (keep_g2 HO3.out HC3.out hg2 hg5); clear ho5 hb5 hg5 hat5))
        go_roundg (gk - 1)
        case measure => omega
        case rel => exact ⟨i + 1, by omega, by omega, by go_num, ⟨by rw [HTK.out]; exact HO5.out⟩, HB5, HC5⟩
      · rw [if_neg hx] at HTK
        have hx' : ¬ (((R.getD i z3).2.2 : Nat) : Int) = (a : Int) := by omega
        generalize (R.getD i z3).2.2 = x2 at c2' HTK hx'
        generalize (R.getD i z3).1 = x0 at c0 HTK
        generalize (R.getD i z3).2.1 = x1 at c1 HTK
        have HO3 := Aside0.mk (Kd.R_alloc hO.out (.cells #[.int .i64 (x0 : Int), .int .i64 (x1 : Int), .int .i64 (x2 : Int)] 30))
        have HB3 := Aside0.mk (below_alloc hB.out (.cells #[.int .i64 (x0 : Int), .int .i64 (x1 : Int), .int .i64 (x2 : Int)] 30))
        have HC3 := Aside0.mk (show (wo.alloc (.cells #[.int .i64 (x0 : Int), .int .i64 (x1 : Int), .int .i64 (x2 : Int)] 30)).heap[g2]? = w2.heap[g2]? ∧ w2.heap.size ≤ wo.heap.size from ⟨(Below.heap_alloc wo _ g2 (by have := hC.out.2; omega)).trans hC.out.1, hC.out.2⟩)
        clear hat htk hx hO hB hC
        go_wp2_with (first | ((with_reducible refine gate_builtin (b := .append) (xs := #[.tmp 24, .tmp 26]) rfl ?_); at_builtin; refine Kd.R_append k30 (w0 := w) w.heap.size rfl (.tmp 24) (.tmp 26) 24 30 (.agg #[.int .i64 0, .int .i64 0, .int .i64 0]) 24 rfl Try.underlying24 infoQ' rfl (by decide) (by omega) _ xs (toS (x0,x1,x2)) [.int .i64 (x0 : Int), .int .i64 (x1 : Int), .int .i64 (x2 : Int)] (fun k => k ≠ g2) (fun _ => False) rfl (by first | (go_simp; done) | (go_simp; rfl)) (k30_mkM _ _ _ (toS (x0,x1,x2))) (fun _ hk => hk.elim) (fun k hk e => by have h1 := HC3.out.2; rw [alloc_size] at hk; omega) HO3.out HB3.out HB3.out.size (by omega) ?_; intro v5 w5 ho5 hb5 hg5 hat5; have HO5 := Aside0.mk ho5; have HB5 := Aside0.mk hb5; have HC5 := Aside0.mk (keep_g2 HO3.out HC3.out hg2 hg5); clear ho5 hb5 hg5 hat5))
        go_roundg (gk - 1)
        case measure => omega
        case rel => exact ⟨i + 1, by omega, by omega, by go_num, ⟨by rw [HTK.out]; exact HO5.out⟩, HB5, HC5⟩
    · have hlt' : ¬ (i : Int) < (R.length : Int) := by omega
      obtain rfl : i = R.length := by omega
      have hR := hO.out
      rw [List.take_of_length_le (by rw [HSL.out]; exact Nat.le_refl _)] at hR
      obtain ⟨A5, c5, rfl, hc5, hC5⟩ := Kd.R_reads hR
      rw [List.length_map] at hc5 hC5 ⊢
      have HLE := Aside0.mk (least_calls wr HK1.out k4 hc5 hC5)
      have HBE := hB
      clear hR hc5 hC5 hO hB hC
      go_wp2_with fail
      refine HLE.out.mono ?_
      rintro e w6 ⟨hb6, A6, c6, rfl, hc6, hC6⟩
      have HF := Aside0.mk (show ListPost w (nz (runsN [] 0 out)) (.returned (.slice A6 (nz (runsN [] 0 out)).length c6)) w6 from ⟨HBE.out.trans (hb6.mono HBE.out.size), A6, c6, rfl, hc6, hC6⟩)
      clear hb6 hc6 hC6 HLE
      generalize (nz (runsN [] 0 out)).length = NL at *
      go_wp2
      go_ret
      exact HF.out

theorem betwN_append (a b : Nat) (l2 : List (Nat × Nat × Nat)) : ∀ l1 : List (Nat × Nat × Nat), betwN a b (l1 ++ l2) = betwN a b l1 ++ betwN a b l2
  | [] => rfl
  | x :: l => by
    have ih := betwN_append a b l2 l
    simp only [List.cons_append, betwN]
    split
    · rw [ih]; rfl
    · exact ih
theorem betwN_yes {a b x0 x1 x2 f t : Nat} (hf : f = max x0 a) (ht : t = min x1 b) (h : f ≤ t) : betwN a b [(x0, x1, x2)] = [(f, t, x2)] := by
  subst hf ht
  simp only [betwN]
  rw [if_pos h]
theorem betwN_no {a b x0 x1 x2 f t : Nat} (hf : f = max x0 a) (ht : t = min x1 b) (h : ¬ f ≤ t) : betwN a b [(x0, x1, x2)] = [] := by
  subst hf ht
  simp only [betwN]
  rw [if_neg h]

set_option maxRecDepth 100000 in
set_option maxHeartbeats 3200000 in
theorem betwd_calls (w : World) {v : Option Addr} {q : List (Nat × Nat × Nat)} {A : Option Addr} {n c : Nat} (h : Tbl w v q A n c) (a b : Nat) (hab : a ≤ b) (hb : b ≤ 1114111) :
    Calls Try.prog 37 #[.slice A n c, .int .i64 (a : Int), .int .i64 (b : Int)] w (ListPost w (betwN a b (runsN [] 0 q))) := by
  have htil := runsN_ok h.rise
  have hRl := htil.length
  have HTB := Aside0.mk h
  have infoQ' := infoQ
  clear h htil
  go_enter Try.func37, Try.ntmps37
  go_wp2_with (first | ((with_reducible refine gate_dst (N := 10) rfl ?_); refine Kd.R_lit k30 _ 30 ?hg (N := 10) ?hd (xs := ([] : List S30)) (inner := []) (ok := fun _ => True) (okp := fun _ => True) ?hr ?hp (fun _ hk => hk) trivial (Below.refl _ _) (Nat.le_refl _) (by simp) ?_; (case hd => rfl); (case hg => rfl); (case hr => first | (go_simp; done) | (go_simp; rfl)); (case hp => exact (Reps.none _ _)); intro v1 w1 ho1 hb1 hg1 hn1; clear hg1 hn1; have HO1 := Aside0.mk ho1; have HB1 := Aside0.mk hb1; have HRU := Aside0.mk (HTB.out.below hb1).runsAt; clear ho1 hb1))
  refine HRU.out.mono ?_
  rintro e w2 ⟨hb2, g2, c2, rfl, hg1, hg2, hcell⟩
  have HB2 := Aside0.mk (HB1.out.trans (hb2.mono HB1.out.size))
  have HO2 := Aside0.mk (Kd.R_below (R_ahead HO1.out hg1) hb2)
  have HCELL := Aside0.mk hcell
  clear hb2 hcell HRU HB1 HO1 HTB hg1
  generalize runsN [] 0 q = R at *
  go_wp2
  go_loopg [7, 21] (R.length + 1) (fun k v7 v21 wr => ∃ i : Nat, i ≤ R.length ∧ R.length + 1 - i ≤ k ∧ v21 = .int .i64 (i : Int) ∧ Aside0 (Kd.R k30 30 wr w.heap.size (fun k => k ≠ g2) v7 ((betwN a b (R.take i)).map toS)) ∧ Aside0 (Below w.heap.size w wr) ∧ Aside0 (wr.heap[g2]? = w2.heap[g2]? ∧ w2.heap.size ≤ wr.heap.size))
  case atStart => exact ⟨0, by omega, by omega, rfl, HO2, HB2, ⟨rfl, Nat.le_refl _⟩⟩
  case round =>
    obtain ⟨i, hi, hk, rfl, hO, hB, hC⟩ := hrel
    clear HO2 HB2
    by_cases hlt : i < R.length
    · have hlt' : (i : Int) < (R.length : Int) := by omega
      obtain ⟨c0, c1, c2'⟩ := HCELL.out wr i hlt hC.out.1
      have htk := congrArg (betwN a b) (take_q R i hlt)
      rw [betwN_append] at htk
      have hxl : ((betwN a b (R.take i)).map toS).length ≤ 1114112 := by have := betwN_len a b (R.take i); rw [List.length_take] at this; rw [List.length_map]; omega
      have HTK := Aside0.mk (congrArg (List.map toS) htk)
      rw [List.map_append] at HTK
      generalize (betwN a b (R.take i)).map toS = xs at hO hxl HTK
      generalize R.getD i z3 = x at c0 c1 c2' HTK
      obtain ⟨x0, x1, x2⟩ := x
      simp only at c0 c1 c2'
      obtain ⟨wo, rfl⟩ : ∃ x, x = wr := ⟨_, rfl⟩
      clear htk
      by_cases h1 : x0 < a
      · have h1' : (x0 : Int) < (a : Int) := by omega
        by_cases h2 : b < x1
        · have h2' : (b : Int) < (x1 : Int) := by omega
          by_cases h3 : a ≤ b
          · have h3' : (a : Int) ≤ (b : Int) := by omega
            rw [betwN_yes (f := a) (t := b) (by omega) (by omega) h3] at HTK
            have HO3 := Aside0.mk (Kd.R_alloc hO.out (.cells #[.int .i64 (a : Int), .int .i64 (b : Int), .int .i64 (x2 : Int)] 30))
            have HB3 := Aside0.mk (below_alloc hB.out (.cells #[.int .i64 (a : Int), .int .i64 (b : Int), .int .i64 (x2 : Int)] 30))
            have HC3 := Aside0.mk (show (wo.alloc (.cells #[.int .i64 (a : Int), .int .i64 (b : Int), .int .i64 (x2 : Int)] 30)).heap[g2]? = w2.heap[g2]? ∧ w2.heap.size ≤ wo.heap.size from ⟨(Below.heap_alloc wo _ g2 (by have := hC.out.2; omega)).trans hC.out.1, hC.out.2⟩)
            clear hO hB hC
            go_wp2_with (first | ((with_reducible refine gate_builtin (b := .append) (xs := #[.tmp 42, .tmp 44]) rfl ?_); at_builtin; refine Kd.R_append k30 (w0 := w) w.heap.size rfl (.tmp 42) (.tmp 44) 24 30 (.agg #[.int .i64 0, .int .i64 0, .int .i64 0]) 24 rfl Try.underlying24 infoQ' rfl (by decide) (by omega) _ xs (toS (a, b, x2)) [.int .i64 (a : Int), .int .i64 (b : Int), .int .i64 (x2 : Int)] (fun k => k ≠ g2) (fun _ => False) rfl (by first | (go_simp; done) | (go_simp; rfl)) (k30_mkM _ _ _ (toS (a, b, x2))) (fun _ hk => hk.elim) (fun k hk e => by have h1 := HC3.out.2; rw [alloc_size] at hk; omega) HO3.out HB3.out HB3.out.size (by omega) ?_; intro v5 w5 ho5 hb5 hg5 hat5; have HO5 := Aside0.mk ho5; have HB5 := Aside0.mk hb5; have HC5 := Aside0.mk (keep_g2 HO3.out HC3.out hg2 hg5); clear ho5 hb5 hg5 hat5))
            go_roundg (gk - 1)
            case measure => omega
            case rel => exact ⟨i + 1, by omega, by omega, by go_num, ⟨by rw [HTK.out]; exact HO5.out⟩, HB5, HC5⟩
          · exact absurd hab h3
        · have h2' : ¬ (b : Int) < (x1 : Int) := by omega
          by_cases h3 : a ≤ x1
          · have h3' : (a : Int) ≤ (x1 : Int) := by omega
            rw [betwN_yes (f := a) (t := x1) (by omega) (by omega) h3] at HTK
            have HO3 := Aside0.mk (Kd.R_alloc hO.out (.cells #[.int .i64 (a : Int), .int .i64 (x1 : Int), .int .i64 (x2 : Int)] 30))
            have HB3 := Aside0.mk (below_alloc hB.out (.cells #[.int .i64 (a : Int), .int .i64 (x1 : Int), .int .i64 (x2 : Int)] 30))
            have HC3 := Aside0.mk (show (wo.alloc (.cells #[.int .i64 (a : Int), .int .i64 (x1 : Int), .int .i64 (x2 : Int)] 30)).heap[g2]? = w2.heap[g2]? ∧ w2.heap.size ≤ wo.heap.size from ⟨(Below.heap_alloc wo _ g2 (by have := hC.out.2; omega)).trans hC.out.1, hC.out.2⟩)
            clear hO hB hC
            go_wp2_with (first | ((with_reducible refine gate_builtin (b := .append) (xs := #[.tmp 42, .tmp 44]) rfl ?_); at_builtin; refine Kd.R_append k30 (w0 := w) w.heap.size rfl (.tmp 42) (.tmp 44) 24 30 (.agg #[.int .i64 0, .int .i64 0, .int .i64 0]) 24 rfl Try.underlying24 infoQ' rfl (by decide) (by omega) _ xs (toS (a, x1, x2)) [.int .i64 (a : Int), .int .i64 (x1 : Int), .int .i64 (x2 : Int)] (fun k => k ≠ g2) (fun _ => False) rfl (by first | (go_simp; done) | (go_simp; rfl)) (k30_mkM _ _ _ (toS (a, x1, x2))) (fun _ hk => hk.elim) (fun k hk e => by have h1 := HC3.out.2; rw [alloc_size] at hk; omega) HO3.out HB3.out HB3.out.size (by omega) ?_; intro v5 w5 ho5 hb5 hg5 hat5; have HO5 := Aside0.mk ho5; have HB5 := Aside0.mk hb5; have HC5 := Aside0.mk (keep_g2 HO3.out HC3.out hg2 hg5); clear ho5 hb5 hg5 hat5))
            go_roundg (gk - 1)
            case measure => omega
            case rel => exact ⟨i + 1, by omega, by omega, by go_num, ⟨by rw [HTK.out]; exact HO5.out⟩, HB5, HC5⟩
          · have h3' : ¬ (a : Int) ≤ (x1 : Int) := by omega
            rw [betwN_no (f := a) (t := x1) (by omega) (by omega) h3, List.map_nil, List.append_nil] at HTK
            have HO3 := Aside0.mk (Kd.R_alloc hO.out (.cells #[.int .i64 (a : Int), .int .i64 (x1 : Int), .int .i64 (x2 : Int)] 30))
            have HB3 := Aside0.mk (below_alloc hB.out (.cells #[.int .i64 (a : Int), .int .i64 (x1 : Int), .int .i64 (x2 : Int)] 30))
            have HC3 := Aside0.mk (show (wo.alloc (.cells #[.int .i64 (a : Int), .int .i64 (x1 : Int), .int .i64 (x2 : Int)] 30)).heap[g2]? = w2.heap[g2]? ∧ w2.heap.size ≤ wo.heap.size from ⟨(Below.heap_alloc wo _ g2 (by have := hC.out.2; omega)).trans hC.out.1, hC.out.2⟩)
            have HC5 := Aside0.mk (show (wo.alloc (.cells #[.int .i64 (a : Int), .int .i64 (x1 : Int), .int .i64 (x2 : Int)] 30)).heap[g2]? = w2.heap[g2]? ∧ w2.heap.size ≤ (wo.alloc (.cells #[.int .i64 (a : Int), .int .i64 (x1 : Int), .int .i64 (x2 : Int)] 30)).heap.size from ⟨HC3.out.1, by have := HC3.out.2; rw [alloc_size]; omega⟩)
            clear hO hB hC HC3
            go_wp2
            go_roundg (gk - 1)
            case measure => omega
            case rel => exact ⟨i + 1, by omega, by omega, by go_num, ⟨by rw [HTK.out]; exact HO3.out⟩, HB3, HC5⟩
      · have h1' : ¬ (x0 : Int) < (a : Int) := by omega
        by_cases h2 : b < x1
        · have h2' : (b : Int) < (x1 : Int) := by omega
          by_cases h3 : x0 ≤ b
          · have h3' : (x0 : Int) ≤ (b : Int) := by omega
            rw [betwN_yes (f := x0) (t := b) (by omega) (by omega) h3] at HTK
            have HO3 := Aside0.mk (Kd.R_alloc hO.out (.cells #[.int .i64 (x0 : Int), .int .i64 (b : Int), .int .i64 (x2 : Int)] 30))
            have HB3 := Aside0.mk (below_alloc hB.out (.cells #[.int .i64 (x0 : Int), .int .i64 (b : Int), .int .i64 (x2 : Int)] 30))
            have HC3 := Aside0.mk (show (wo.alloc (.cells #[.int .i64 (x0 : Int), .int .i64 (b : Int), .int .i64 (x2 : Int)] 30)).heap[g2]? = w2.heap[g2]? ∧ w2.heap.size ≤ wo.heap.size from ⟨(Below.heap_alloc wo _ g2 (by have := hC.out.2; omega)).trans hC.out.1, hC.out.2⟩)
            clear hO hB hC
            go_wp2_with (first | ((with_reducible refine gate_builtin (b := .append) (xs := #[.tmp 42, .tmp 44]) rfl ?_); at_builtin; refine Kd.R_append k30 (w0 := w) w.heap.size rfl (.tmp 42) (.tmp 44) 24 30 (.agg #[.int .i64 0, .int .i64 0, .int .i64 0]) 24 rfl Try.underlying24 infoQ' rfl (by decide) (by omega) _ xs (toS (x0, b, x2)) [.int .i64 (x0 : Int), .int .i64 (b : Int), .int .i64 (x2 : Int)] (fun k => k ≠ g2) (fun _ => False) rfl (by first | (go_simp; done) | (go_simp; rfl)) (k30_mkM _ _ _ (toS (x0, b, x2))) (fun _ hk => hk.elim) (fun k hk e => by have h1 := HC3.out.2; rw [alloc_size] at hk; omega) HO3.out HB3.out HB3.out.size (by omega) ?_; intro v5 w5 ho5 hb5 hg5 hat5; have HO5 := Aside0.mk ho5; have HB5 := Aside0.mk hb5; have HC5 := Aside0.mk (keep_g2 HO3.out HC3.out hg2 hg5); clear ho5 hb5 hg5 hat5))
            go_roundg (gk - 1)
            case measure => omega
            case rel => exact ⟨i + 1, by omega, by omega, by go_num, ⟨by rw [HTK.out]; exact HO5.out⟩, HB5, HC5⟩
          · have h3' : ¬ (x0 : Int) ≤ (b : Int) := by omega
            rw [betwN_no (f := x0) (t := b) (by omega) (by omega) h3, List.map_nil, List.append_nil] at HTK
            have HO3 := Aside0.mk (Kd.R_alloc hO.out (.cells #[.int .i64 (x0 : Int), .int .i64 (b : Int), .int .i64 (x2 : Int)] 30))
            have HB3 := Aside0.mk (below_alloc hB.out (.cells #[.int .i64 (x0 : Int), .int .i64 (b : Int), .int .i64 (x2 : Int)] 30))
            have HC3 := Aside0.mk (show (wo.alloc (.cells #[.int .i64 (x0 : Int), .int .i64 (b : Int), .int .i64 (x2 : Int)] 30)).heap[g2]? = w2.heap[g2]? ∧ w2.heap.size ≤ wo.heap.size from ⟨(Below.heap_alloc wo _ g2 (by have := hC.out.2; omega)).trans hC.out.1, hC.out.2⟩)
            have HC5 := Aside0.mk (show (wo.alloc (.cells #[.int .i64 (x0 : Int), .int .i64 (b : Int), .int .i64 (x2 : Int)] 30)).heap[g2]? = w2.heap[g2]? ∧ w2.heap.size ≤ (wo.alloc (.cells #[.int .i64 (x0 : Int), .int .i64 (b : Int), .int .i64 (x2 : Int)] 30)).heap.size from ⟨HC3.out.1, by have := HC3.out.2; rw [alloc_size]; omega⟩)
            clear hO hB hC HC3
            go_wp2
            go_roundg (gk - 1)
            case measure => omega
            case rel => exact ⟨i + 1, by omega, by omega, by go_num, ⟨by rw [HTK.out]; exact HO3.out⟩, HB3, HC5⟩
        · have h2' : ¬ (b : Int) < (x1 : Int) := by omega
          by_cases h3 : x0 ≤ x1
          · have h3' : (x0 : Int) ≤ (x1 : Int) := by omega
            rw [betwN_yes (f := x0) (t := x1) (by omega) (by omega) h3] at HTK
            have HO3 := Aside0.mk (Kd.R_alloc hO.out (.cells #[.int .i64 (x0 : Int), .int .i64 (x1 : Int), .int .i64 (x2 : Int)] 30))
            have HB3 := Aside0.mk (below_alloc hB.out (.cells #[.int .i64 (x0 : Int), .int .i64 (x1 : Int), .int .i64 (x2 : Int)] 30))
            have HC3 := Aside0.mk (show (wo.alloc (.cells #[.int .i64 (x0 : Int), .int .i64 (x1 : Int), .int .i64 (x2 : Int)] 30)).heap[g2]? = w2.heap[g2]? ∧ w2.heap.size ≤ wo.heap.size from ⟨(Below.heap_alloc wo _ g2 (by have := hC.out.2; omega)).trans hC.out.1, hC.out.2⟩)
            clear hO hB hC
            go_wp2_with (first | ((with_reducible refine gate_builtin (b := .append) (xs := #[.tmp 42, .tmp 44]) rfl ?_); at_builtin; refine Kd.R_append k30 (w0 := w) w.heap.size rfl (.tmp 42) (.tmp 44) 24 30 (.agg #[.int .i64 0, .int .i64 0, .int .i64 0]) 24 rfl Try.underlying24 infoQ' rfl (by decide) (by omega) _ xs (toS (x0, x1, x2)) [.int .i64 (x0 : Int), .int .i64 (x1 : Int), .int .i64 (x2 : Int)] (fun k => k ≠ g2) (fun _ => False) rfl (by first | (go_simp; done) | (go_simp; rfl)) (k30_mkM _ _ _ (toS (x0, x1, x2))) (fun _ hk => hk.elim) (fun k hk e => by have h1 := HC3.out.2; rw [alloc_size] at hk; omega) HO3.out HB3.out HB3.out.size (by omega) ?_; intro v5 w5 ho5 hb5 hg5 hat5; have HO5 := Aside0.mk ho5; have HB5 := Aside0.mk hb5; have HC5 := Aside0.mk (keep_g2 HO3.out HC3.out hg2 hg5); clear ho5 hb5 hg5 hat5))
            go_roundg (gk - 1)
            case measure => omega
            case rel => exact ⟨i + 1, by omega, by omega, by go_num, ⟨by rw [HTK.out]; exact HO5.out⟩, HB5, HC5⟩
          · have h3' : ¬ (x0 : Int) ≤ (x1 : Int) := by omega
            rw [betwN_no (f := x0) (t := x1) (by omega) (by omega) h3, List.map_nil, List.append_nil] at HTK
            have HO3 := Aside0.mk (Kd.R_alloc hO.out (.cells #[.int .i64 (x0 : Int), .int .i64 (x1 : Int), .int .i64 (x2 : Int)] 30))
            have HB3 := Aside0.mk (below_alloc hB.out (.cells #[.int .i64 (x0 : Int), .int .i64 (x1 : Int), .int .i64 (x2 : Int)] 30))
            have HC3 := Aside0.mk (show (wo.alloc (.cells #[.int .i64 (x0 : Int), .int .i64 (x1 : Int), .int .i64 (x2 : Int)] 30)).heap[g2]? = w2.heap[g2]? ∧ w2.heap.size ≤ wo.heap.size from ⟨(Below.heap_alloc wo _ g2 (by have := hC.out.2; omega)).trans hC.out.1, hC.out.2⟩)
            have HC5 := Aside0.mk (show (wo.alloc (.cells #[.int .i64 (x0 : Int), .int .i64 (x1 : Int), .int .i64 (x2 : Int)] 30)).heap[g2]? = w2.heap[g2]? ∧ w2.heap.size ≤ (wo.alloc (.cells #[.int .i64 (x0 : Int), .int .i64 (x1 : Int), .int .i64 (x2 : Int)] 30)).heap.size from ⟨HC3.out.1, by have := HC3.out.2; rw [alloc_size]; omega⟩)
            clear hO hB hC HC3
            go_wp2
            go_roundg (gk - 1)
            case measure => omega
            case rel => exact ⟨i + 1, by omega, by omega, by go_num, ⟨by rw [HTK.out]; exact HO3.out⟩, HB3, HC5⟩
    · have hlt' : ¬ (i : Int) < (R.length : Int) := by omega
      obtain rfl : i = R.length := by omega
      have hR := hO.out
      rw [List.take_of_length_le (Nat.le_refl _)] at hR
      obtain ⟨A5, c5, rfl, hc5, hC5⟩ := Kd.R_reads hR
      rw [List.length_map] at hc5 hC5 ⊢
      have HF := Aside0.mk (show ListPost w (betwN a b R) (.returned (.slice A5 (betwN a b R).length c5)) wr from ⟨hB.out, A5, c5, rfl, hc5, hC5⟩)
      clear hR hc5 hC5 hO hB hC
      generalize (betwN a b R).length = NL at *
      go_wp2
      go_ret
      exact HF.out

end Go.Proofs.Ytajmbafljncjcaa.PStageOver
