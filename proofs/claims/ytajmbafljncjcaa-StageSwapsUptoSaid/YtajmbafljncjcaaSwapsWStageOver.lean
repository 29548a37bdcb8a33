/- StageSwaps: the law's walk. -/
import Derived.Test.YtajmbafljncjcaaStRunsStageOver
import Derived.Deep.RegionHeld3
import Derived.Deep.DeepCutAuto
namespace Go.Proofs.Ytajmbafljncjcaa.PStageOver
open Go.RowKit Go.Proofs.YtajmbafljncjcaaW.PrintWords Go.Proofs.YtajmbafljncjcaaW.PrintLast Go.Proofs.YtajmbafljncjcaaW.PrintMore Go.Proofs.Ytajmbafljncjcaa.Stage Go.Proofs.Ytajmbafljncjcaa.Mp
set_option linter.unusedVariables false
set_option linter.unusedSimpArgs false

theorem below_drew' (w : World) : Below w.heap.size w w.drew := ⟨rfl, rfl, rfl, Nat.le_refl _, fun _ _ => rfl⟩
theorem tabSays_congr {w : World} {b : Nat} {s1 s2 : Nat → Nat} (h : TabSays w b s1) (he : ∀ p, p < 1114112 → s2 p = s1 p) : TabSays w b s2 := by
  obtain ⟨g, c, g', c', h⟩ := h
  exact ⟨g, c, g', c', by rw [tabSay_congr he]; exact h⟩
theorem box4 {w W : World} {a0 a1 a2 a3 : Value} {t : TypeId} (h : Below (w.alloc (.cells #[a0, a1, a2, a3] t)).heap.size (w.alloc (.cells #[a0, a1, a2, a3] t)) W) :
    W.cell? ⟨w.heap.size, 0, none⟩ = some a0 ∧ W.cell? ⟨w.heap.size, 1, none⟩ = some a1 ∧ W.cell? ⟨w.heap.size, 2, none⟩ = some a2 ∧ W.cell? ⟨w.heap.size, 3, none⟩ = some a3 := by
  have hb := blk_new w [a0, a1, a2, a3] t
  have hW : Blk W w.heap.size [a0, a1, a2, a3] t := (h.block _ hb.lt).trans hb
  exact ⟨hW.cell 0, hW.cell 1, hW.cell 2, hW.cell 3⟩
theorem box4_undrew {w W W1 : World} {a0 a1 a2 a3 : Value} {t : TypeId} (h : Below (w.alloc (.cells #[a0, a1, a2, a3] t)).heap.size (w.alloc (.cells #[a0, a1, a2, a3] t)) W) (h1 : Below W.drew.heap.size W.drew W1) : Below (w.alloc (.cells #[a0, a1, a2, a3] t)).heap.size (w.alloc (.cells #[a0, a1, a2, a3] t)) W1 :=
  h.trans ((below_undrew h1).mono h.size)

set_option maxRecDepth 100000 in
set_option maxHeartbeats 3200000 in
theorem swapsw_calls (w : World) (A0 : Option Addr) (c0 : Nat) (l : List S40) (hC : Kd.C k40 w A0 l.length l) (hc0 : l.length ≤ c0) (hf : Fits l) (hl : l.length ≤ 1048576)
    (N M F T : Int) (hF : -2147483648 ≤ F ∧ F ≤ 2147483647) (hT : -2147483648 ≤ T ∧ T ≤ 2147483647) :
    Calls Try.prog 9 #[.slice A0 l.length c0, .agg #[.int .i64 N, .int .i64 M, .int .i32 F, .int .i32 T]] w (Yes w) := by
  have hba := below_alloc (Below.refl w.heap.size w) (.cells #[.int .i64 N, .int .i64 M, .int .i32 F, .int .i32 T] 67)
  have HBu := Aside0.mk (built2_calls (w.alloc (.cells #[.int .i64 N, .int .i64 M, .int .i32 F, .int .i32 T] 67)) A0 c0 l (Kd.C_below hC hba) hc0 hf hl)
  have HWA := Aside0.mk hba
  clear hC hf hba
  go_enter Try.func9, Try.ntmps9
  go_wp2_with fail
  refine HBu.out.mono ?_
  intro e w1 hbu
  obtain ⟨hb1, v, A4, n4, c4, is, rfl, q, A, n, c, hTb, hrow⟩ := hbu.rows
  have HB1 := Aside0.mk hb1
  have HA := Aside0.mk (awake_calls w1)
  have HT := Aside0.mk hTb
  have HROW := Aside0.mk hrow
  clear hbu hb1 hTb hrow HBu
  go_wp2_with fail
  refine HA.out.mono ?_
  rintro e w2 ⟨rfl, hb2⟩
  have HB2 := Aside0.mk (HB1.out.trans (hb2.mono HB1.out.size))
  have HT2 := Aside0.mk (HT.out.below hb2)
  have HSW := Aside0.mk (swap_calls w2 v (sayQ q) HT2.out.han (fun p _ => sayQ_le HT2.out.rise p) N M)
  obtain ⟨x0, x1, x2, x3⟩ := box4 HB2.out
  clear hb2 HB1 HT HA
  have hrow := HROW.out
  clear HROW
  rcases hrow with ⟨rfl, rfl, rfl, rfl⟩ | ⟨rfl, rfl, rfl, rfl, rfl⟩
  all_goals
    go_wp2_with fail
    refine HSW.out.mono ?_
    rintro e w3 ⟨hb3, hcase⟩
    have HB3 := Aside0.mk (HB2.out.trans (hb3.mono HB2.out.size))
    have HT3 := Aside0.mk (HT2.out.below hb3)
    clear hb3 HSW HB2 HT2 x0 x1 x2 x3
    obtain ⟨x0, x1, x2, x3⟩ := box4 HB3.out
    rcases hcase with ⟨hbad, rfl⟩ | ⟨⟨hN1, hN2, hM1, hM2⟩, b, rfl, hu⟩
    · have h4 : (N < 0) ∨ (¬ N < 0 ∧ 65535 < N) ∨ (¬ N < 0 ∧ ¬ 65535 < N ∧ M < 0) ∨ (¬ N < 0 ∧ ¬ 65535 < N ∧ ¬ M < 0 ∧ 65535 < M) := by omega
      clear hbad
      go_upto_region 7 with fail
      go_cut [53] from 36 to 53 (fun v53 wx => v53 = .bool true ∧ w3 = wx)
      case first =>
        rcases h4 with h1 | ⟨h1, h2⟩ | ⟨h1, h2, h3⟩ | ⟨h1, h2, h3, h4⟩
        all_goals
          go_wp2_with fail
          go_meet
          exact ⟨rfl, rfl⟩
      case rest =>
        obtain ⟨rfl, rfl⟩ := hcut
        have HRN := Aside0.mk (show Calls Try.prog 36 #[.pointer _, .int .i32 F, .int .i32 T] w3 (StRunsPost w3 (sayQ q) F T) from struns_calls w3 _ (sayQ q) HT3.out.han F T)
        go_wp2_with fail
        refine HRN.out.mono ?_
        rintro e wr ⟨hbr, hcase⟩
        have HBR := Aside0.mk (HB3.out.trans (hbr.mono HB3.out.size))
        have HTR := Aside0.mk (HT3.out.below hbr)
        clear hbr HRN x0 x1 x2 x3
        obtain ⟨x0, x1, x2, x3⟩ := box4 HBR.out
        rcases hcase with ⟨hbad, rfl⟩ | ⟨⟨hF1, hF2, hF3⟩, rs, Ar, cr, htil, rfl, hcr, hCr⟩
        · have HFIN := Aside0.mk (HWA.out.trans (HBR.out.mono HWA.out.size))
          have h4 : (F < 0) ∨ (¬ F < 0 ∧ 1114111 < F) ∨ (¬ F < 0 ∧ ¬ 1114111 < F ∧ T < F) ∨ (¬ F < 0 ∧ ¬ 1114111 < F ∧ ¬ T < F ∧ 1114111 < T) := by omega
          clear hbad
          rcases h4 with h1 | ⟨h1, h2⟩ | ⟨h1, h2, h3⟩ | ⟨h1, h2, h3, h4⟩
          all_goals
            go_wp2
            go_ret
            exact ⟨rfl, HFIN.out⟩
        · obtain ⟨fa, rfl⟩ := Int.eq_ofNat_of_zero_le hF1
          obtain ⟨ta, rfl⟩ := Int.eq_ofNat_of_zero_le (show 0 ≤ T by omega)
          rw [Int.toNat_natCast, Int.toNat_natCast] at htil
          have h2 : fa ≤ ta := by omega
          have h3 : ta ≤ 1114111 := by omega
          have huq : rs = betwN fa ta (runsN [] 0 q) := by
            have := betwN_til h2 (show ta < 1114112 by omega) (runsN_ok HTR.out.rise)
            rw [show min (max 0 fa) (ta + 1) = fa by omega] at this
            exact htil.uniq this
          have HBE := Aside0.mk (betwd_calls wr HTR.out fa ta h2 h3)
          rw [← huq] at HBE
          have hrl := htil.length
          have HRF := Aside0.mk (show posternlaw08_rows.f (rs.length + 1) (rs.map toV) (rs.map toS) = some true from by rw [rows_fg (a := rs) (b := rs) (by omega) (fun x hx => by have := htil.mem x hx; omega)]; simp)
          have HCR := Aside0.mk hCr
          have HLR := Aside0.mk hcr
          have k1 : ¬ (fa : Int) < 0 := by omega
          have k2 : ¬ (1114111 : Int) < (fa : Int) := by omega
          have k3 : ¬ (ta : Int) < (fa : Int) := by omega
          have k4 : ¬ (1114111 : Int) < (ta : Int) := by omega
          clear htil huq hcr hCr hF1 hF2 hF3
          go_wp2_with fail
          refine HBE.out.mono ?_
          rintro e ws ⟨hbs, As, cs, rfl, hcs, hCs⟩
          have HBS := Aside0.mk (HBR.out.trans (hbs.mono HBR.out.size))
          have HTS := Aside0.mk (HTR.out.below hbs)
          have hro := posternlaw08_rows.calls (rs.length + 1) Ar cr (rs.map toV) As cs (rs.map toS) _ ws (by rw [List.length_map]; exact Kd.C_below HCR.out hbs) (by rw [List.length_map]; exact HLR.out) (by rw [List.length_map]; exact hCs) (by rw [List.length_map]; exact hcs) HRF.out
          rw [List.length_map, List.length_map] at hro
          have HRO := Aside0.mk hro
          clear hbs hcs hCs hro HBE HBR HTR HRF HCR HLR x0 x1 x2 x3
          go_wp2_with fail
          refine HRO.out.mono ?_
          rintro e wt ⟨rfl, hbt⟩
          have HBT := Aside0.mk (HBS.out.trans (hbt.below.mono HBS.out.size))
          have HSD := Aside0.mk ((HTS.out.below hbt.below).stands0 0)
          clear hbt HRO HBS HTS
          go_wp2_with fail
          refine HSD.out.mono ?_
          rintro e wu ⟨rfl, hbu⟩
          have HFIN := Aside0.mk (HWA.out.trans ((HBT.out.trans (hbu.mono HBT.out.size)).mono HWA.out.size))
          clear hbu HSD HBT
          go_wp2
          go_ret
          exact ⟨rfl, HFIN.out⟩
    · obtain ⟨na, rfl⟩ := Int.eq_ofNat_of_zero_le hN1
      obtain ⟨ma, rfl⟩ := Int.eq_ofNat_of_zero_le hM1
      rw [Int.toNat_natCast, Int.toNat_natCast] at hu
      have h2 : na ≤ 65535 := by omega
      have h3 : ma ≤ 65535 := by omega
      obtain ⟨k1, k2, k3, k4, k5⟩ := swapR_ok HT3.out.rise na ma h3
      have HU3 := Aside0.mk (tabSays_congr hu k5)
      have HK2 := Aside0.mk k2
      have HSD := Aside0.mk (fun (W : World) (hW : Below w3.drew.heap.size w3.drew W) => swapd_calls W (HT3.out.below (below_undrew hW)) na ma h3)
      have HSN := Aside0.mk (swapd_calls w3.drew (HT3.out.below (below_drew' w3)) na ma h3)
      have g1 : ¬ (na : Int) < 0 := by omega
      have g2 : ¬ (65535 : Int) < (na : Int) := by omega
      have g3 : ¬ (ma : Int) < 0 := by omega
      have g4 : ¬ (65535 : Int) < (ma : Int) := by omega
      clear hu k1 k2 k4 k5 hN1 hN2 hM1 hM2
      generalize nz (runsN [] 0 (swapR na ma q)) = N2 at *
      have HST := Aside0.mk (fun (W : World) (A' : Option Addr) (c' : Nat) (hW : Below w3.drew.heap.size w3.drew W) (h1 : N2.length ≤ c') (h2 : Kd.C k30 W A' N2.length (N2.map toS)) =>
        (show Tbl W (some ⟨b, 0, none⟩) N2 A' N2.length c' from ⟨rfl, .inr ⟨b, rfl, HU3.out.below (below_undrew hW)⟩, HK2.out, k3, h1, h2⟩).stands0 (ma : Int))
      go_wp2
      go_region_held3 (fun w' => w'.cell? ⟨w.heap.size, 0, none⟩ = some (.int .i64 (na : Int)) ∧ w'.cell? ⟨w.heap.size, 1, none⟩ = some (.int .i64 (ma : Int))) (first | exact ⟨x0, x1⟩ | exact ⟨(box4 (box4_undrew HB3.out hy)).1, (box4 (box4_undrew HB3.out hy)).2.1⟩ | go_keep) (first | ((with_reducible refine HSN.out.mono ?_); rintro e y ⟨hy, A', c', rfl, hc', hC'⟩) | (go_at_call 26; refine (HST.out _ _ _ (by assumption) (by assumption) (by assumption)).mono ?_; rintro e y2 ⟨rfl, hy2⟩; have hy := Below.trans (by assumption) (Below.mono hy2 (Below.size (by assumption)))))
      have HB4 := Aside0.mk (box4_undrew HB3.out hy)
      have HT4 := Aside0.mk (HT3.out.below (below_undrew hy))
      obtain ⟨w4, rfl⟩ : ∃ x, x = y2 := ⟨_, rfl⟩
      clear hy HSD HSN HST HB3 HT3 HU3 HK2 x0 x1 x2 x3
      obtain ⟨x0, x1, x2, x3⟩ := box4 HB4.out
      have HRN := Aside0.mk (show Calls Try.prog 36 #[.pointer _, .int .i32 F, .int .i32 T] w4 (StRunsPost w4 (sayQ q) F T) from struns_calls w4 _ (sayQ q) HT4.out.han F T)
      go_wp2_with fail
      refine HRN.out.mono ?_
      rintro e wr ⟨hbr, hcase⟩
      have HBR := Aside0.mk (HB4.out.trans (hbr.mono HB4.out.size))
      have HTR := Aside0.mk (HT4.out.below hbr)
      clear hbr HRN x0 x1 x2 x3
      obtain ⟨x0, x1, x2, x3⟩ := box4 HBR.out
      rcases hcase with ⟨hbad, rfl⟩ | ⟨⟨hF1, hF2, hF3⟩, rs, Ar, cr, htil, rfl, hcr, hCr⟩
      · have HFIN := Aside0.mk (HWA.out.trans (HBR.out.mono HWA.out.size))
        have h4 : (F < 0) ∨ (¬ F < 0 ∧ 1114111 < F) ∨ (¬ F < 0 ∧ ¬ 1114111 < F ∧ T < F) ∨ (¬ F < 0 ∧ ¬ 1114111 < F ∧ ¬ T < F ∧ 1114111 < T) := by omega
        clear hbad
        rcases h4 with h1 | ⟨h1, h2⟩ | ⟨h1, h2, h3⟩ | ⟨h1, h2, h3, h4⟩
        all_goals
          go_wp2
          go_ret
          exact ⟨rfl, HFIN.out⟩
      · obtain ⟨fa, rfl⟩ := Int.eq_ofNat_of_zero_le hF1
        obtain ⟨ta, rfl⟩ := Int.eq_ofNat_of_zero_le (show 0 ≤ T by omega)
        rw [Int.toNat_natCast, Int.toNat_natCast] at htil
        have h2 : fa ≤ ta := by omega
        have h3 : ta ≤ 1114111 := by omega
        have huq : rs = betwN fa ta (runsN [] 0 q) := by
          have := betwN_til h2 (show ta < 1114112 by omega) (runsN_ok HTR.out.rise)
          rw [show min (max 0 fa) (ta + 1) = fa by omega] at this
          exact htil.uniq this
        have HBE := Aside0.mk (betwd_calls wr HTR.out fa ta h2 h3)
        rw [← huq] at HBE
        have hrl := htil.length
        have HRF := Aside0.mk (show posternlaw08_rows.f (rs.length + 1) (rs.map toV) (rs.map toS) = some true from by rw [rows_fg (a := rs) (b := rs) (by omega) (fun x hx => by have := htil.mem x hx; omega)]; simp)
        have HCR := Aside0.mk hCr
        have HLR := Aside0.mk hcr
        have k1 : ¬ (fa : Int) < 0 := by omega
        have k2 : ¬ (1114111 : Int) < (fa : Int) := by omega
        have k3 : ¬ (ta : Int) < (fa : Int) := by omega
        have k4 : ¬ (1114111 : Int) < (ta : Int) := by omega
        clear htil huq hcr hCr hF1 hF2 hF3
        go_wp2_with fail
        refine HBE.out.mono ?_
        rintro e ws ⟨hbs, As, cs, rfl, hcs, hCs⟩
        have HBS := Aside0.mk (HBR.out.trans (hbs.mono HBR.out.size))
        have HTS := Aside0.mk (HTR.out.below hbs)
        have hro := posternlaw08_rows.calls (rs.length + 1) Ar cr (rs.map toV) As cs (rs.map toS) _ ws (by rw [List.length_map]; exact Kd.C_below HCR.out hbs) (by rw [List.length_map]; exact HLR.out) (by rw [List.length_map]; exact hCs) (by rw [List.length_map]; exact hcs) HRF.out
        rw [List.length_map, List.length_map] at hro
        have HRO := Aside0.mk hro
        clear hbs hcs hCs hro HBE HBR HTR HRF HCR HLR x0 x1 x2 x3
        go_wp2_with fail
        refine HRO.out.mono ?_
        rintro e wt ⟨rfl, hbt⟩
        have HBT := Aside0.mk (HBS.out.trans (hbt.below.mono HBS.out.size))
        have HSD := Aside0.mk ((HTS.out.below hbt.below).stands0 0)
        clear hbt HRO HBS HTS
        go_wp2_with fail
        refine HSD.out.mono ?_
        rintro e wu ⟨rfl, hbu⟩
        have HFIN := Aside0.mk (HWA.out.trans ((HBT.out.trans (hbu.mono HBT.out.size)).mono HWA.out.size))
        clear hbu HSD HBT
        go_wp2
        go_ret
        exact ⟨rfl, HFIN.out⟩

end Go.Proofs.Ytajmbafljncjcaa.PStageOver
