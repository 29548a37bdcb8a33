/- StageOver: the law's walk. -/
import Derived.Test.YtajmbafljncjcaaTblStageOver
import Derived.Test.YtajmbafljncjcaaRefCStageOver
import Derived.Test.YtajmbafljncjcaaSame
namespace Go.Proofs.Ytajmbafljncjcaa.PStageOver
open Go.RowKit Go.Proofs.YtajmbafljncjcaaW.PrintWords Go.Proofs.YtajmbafljncjcaaW.PrintLast Go.Proofs.YtajmbafljncjcaaW.PrintMore Go.Proofs.Ytajmbafljncjcaa.Stage Go.Proofs.Ytajmbafljncjcaa.Mp
set_option linter.unusedVariables false
set_option linter.unusedSimpArgs false

theorem over_at (w : World) (v : Option Addr) (say : Nat → Nat) (hh : Han w v say) (g cap : Nat) (A : Option Addr) (l : List S40) (hA : 0 < (l.map tri).length → A = some ⟨g, 0, none⟩) (hrows : RowsI w g 0 (l.map tri)) (hl : l.length ≤ cap) (hl2 : l.length ≤ 9223372036854775807) :
    Calls Try.prog 27 #[.pointer v, .slice A l.length cap] w (OverPost w (l.map tri) say) := by
  have h := over_calls w v say hh g 0 cap A (l.map tri) hA hrows (by rw [List.length_map]; exact hl) (by rw [List.length_map]; exact hl2)
  rw [List.length_map] at h
  exact h

theorem same_over (q k : List (Nat × Nat × Nat)) (h1 : RiseN 0 q) (h2 : RiseN 0 k) : sameB (overSay k (sayQ q)) (sayQ q) = decide (nz (runsN [] 0 (bothN q k)) = nz (runsN [] 0 q)) := by
  rw [Bool.eq_iff_iff, sameB_iff, decide_eq_true_iff, ← same_rows (bothN_rise h1 h2) h1]
  exact ⟨fun h p hp => by rw [bothN_says h1 h2 p hp, h p hp], fun h p hp => by rw [← bothN_says h1 h2 p hp, h p hp]⟩
theorem same_nil (q : List (Nat × Nat × Nat)) : sameB (overSay (natR []) (sayQ q)) (sayQ q) = true := (sameB_iff _ _).2 fun p hp => rfl
theorem over_nil (w : World) (v : Option Addr) (say : Nat → Nat) (hh : Han w v say) : Calls Try.prog 27 #[.pointer v, .slice none 0 0] w (fun e w' => Below w.heap.size w w' ∧ ∃ b, e = .returned (.tuple #[.pointer (some ⟨b, 0, none⟩), .int .i64 0, .int .i64 0]) ∧ TabSays w' b (overSay (natR []) say)) := by
  refine (over_calls w v say hh 0 0 0 none [] (fun h => absurd h (Nat.lt_irrefl 0)) (fun i hi => absurd hi (Nat.not_lt_zero i)) (Nat.le_refl _) (Nat.zero_le _)).mono ?_
  rintro e w1 ⟨hb, ⟨h, _⟩ | ⟨_, b, rfl, ht⟩⟩
  · exact absurd rfl h
  · exact ⟨hb, b, rfl, ht⟩
theorem overd_at (w : World) {v : Option Addr} {q : List (Nat × Nat × Nat)} {A : Option Addr} {n c : Nat} (h : Tbl w v q A n c) {k : List (Nat × Nat × Nat)} (hk : RiseN 0 k) (hkl : k.length ≤ 65536) {A6 : Option Addr} {n6 c6 : Nat} (hn : k.length = n6) (hc : k.length ≤ c6) (hC : Kd.C k30 w A6 k.length (k.map toS)) :
    Calls Try.prog 28 #[.slice A n c, .slice A6 n6 c6] w fun e w' => Below w.heap.size w w' ∧ ∃ A9 c9, e = .returned (.slice A9 (bothN q k).length c9) ∧ (bothN q k).length ≤ c9 ∧ Kd.C k30 w' A9 (bothN q k).length ((bothN q k).map toS) := by
  obtain ⟨kf, hf⟩ := over_f h.rise hk h.few (by omega)
  have := posternref08_Over.calls kf A c (q.map toS) A6 c6 (k.map toS) _ w (by rw [List.length_map]; exact h.mem) (by rw [List.length_map]; exact h.cap) (by rw [List.length_map]; exact hC) (by rw [List.length_map]; exact hc) hf
  rw [List.length_map, List.length_map, h.len, hn] at this
  refine this.mono ?_
  rintro e w' ⟨vS, rfl, hR, hb⟩
  obtain ⟨A9, c9, rfl, h1, h2⟩ := Kd.R_reads hR
  rw [List.length_map] at h1 h2 ⊢
  exact ⟨hb, A9, c9, rfl, h1, h2⟩

set_option maxRecDepth 100000 in
set_option maxHeartbeats 1600000 in
theorem overw_calls (w : World) (A0 : Option Addr) (c0 : Nat) (l : List S40) (hC : Kd.C k40 w A0 l.length l) (hc0 : l.length ≤ c0) (hf : Fits l) (hl : l.length ≤ 1048576)
    (B0 : Option Addr) (d0 : Nat) (m : List S40) (hD : Kd.C k40 w B0 m.length m) (hd0 : m.length ≤ d0) (hmf : Fits m) (hm : m.length ≤ 1048576)
    {A2 : Option Addr} {c2 : Nat} {zs : List Int} (hZ : Kd.C (Kd.int .i32) w A2 zs.length zs) (hzf : ∀ p ∈ zs, -2147483648 ≤ p ∧ p ≤ 2147483647) (hzl : zs.length ≤ 1048576) :
    Calls Try.prog 6 #[.slice A0 l.length c0, .slice B0 m.length d0, .slice A2 zs.length c2] w (Yes w) := by
  have HBu := Aside0.mk (built2_calls w A0 c0 l hC hc0 hf hl)
  have HD := Aside0.mk hD
  have HMF := Aside0.mk hmf
  have HZ := Aside0.mk hZ
  have HZF := Aside0.mk hzf
  have infoV' := infoV
  clear hC hf hD hmf hZ hzf
  go_enter Try.func6, Try.ntmps6
  go_wp2_with fail
  refine HBu.out.mono ?_
  intro e w1 hbu
  obtain ⟨hb1, v, A4, n4, c4, is, rfl, q, A, n, c, hT, hrow⟩ := hbu.rows
  have HB1 := Aside0.mk hb1
  have HA := Aside0.mk (awake_calls w1)
  have HT := Aside0.mk hT
  have HROW := Aside0.mk hrow
  clear hbu hb1 hT hrow HBu
  go_wp2_with fail
  refine HA.out.mono ?_
  rintro e w2 ⟨rfl, hb2⟩
  have HB2 := Aside0.mk (HB1.out.trans (hb2.mono HB1.out.size))
  have HT2 := Aside0.mk (HT.out.below hb2)
  clear hb2 HB1 HT HA
  go_wp2_with (first | ((with_reducible refine gate_dst (N := 34) rfl ?_); refine Kd.R_lit k40 _ 40 ?hg (N := 34) ?hd (xs := ([] : List S40)) (inner := []) (ok := fun _ => True) (okp := fun _ => True) ?hr ?hp (fun _ hk => hk) trivial (Below.refl _ _) (Nat.le_refl _) (by simp) ?_; (case hd => rfl); (case hg => rfl); (case hr => first | (go_simp; done) | (go_simp; rfl)); (case hp => exact (Reps.none _ _)); intro v3 w3 ho3 hb3 hg3 hn3; clear hg3 hn3; have HO3 := Aside0.mk ho3; have HB3 := Aside0.mk hb3; clear ho3 hb3) | ((with_reducible refine gate_builtin (b := .append) (xs := #[.tmp 34, .tmp 35]) rfl ?_); at_builtin; refine Kd.R_append_rows k40 (w0 := w2) w2.heap.size rfl (.tmp 34) (.tmp 35) 22 40 (.agg #[.int .i32 0, .int .i32 0, .int .i64 0]) 16 rfl Try.underlying22 infoV' rfl (by decide) (by omega) v3 [] m _ _ _ (fun _ => True) (fun _ => False) rfl rfl HO3.out (Kd.C_below HD.out (HB2.out.trans (HB3.out.mono HB2.out.size))) (fun _ _ h => h) (fun _ h => h.elim) (fun _ _ => trivial) HB3.out HB3.out.size (by simp only [List.length_nil]; omega) ?_; intro v4 w4 ho4 hb4 hg4 hat4; clear hg4 hat4; rw [List.nil_append] at ho4; obtain ⟨A5, c5, g5, rfl, hl5, hm5, hA5, hR5, hC5⟩ := rowsI_of_R ho4; have HB4 := Aside0.mk (HB2.out.trans (hb4.mono HB2.out.size)); have HT4 := Aside0.mk (HT2.out.below hb4); have HC5 := Aside0.mk hC5; have HL5 := Aside0.mk hl5; have HOv := Aside0.mk (over_at w4 v _ HT4.out.han g5 c5 A5 m hA5 hR5 hl5 hm5); clear ho4 hb4 hA5 hR5 hC5 HO3 hl5 hm5 HB3))
  have hp0 := plain_f HMF.out hm
  have hch0 := check_f m
  have hrf0 := rows_f HMF.out (by omega)
  generalize hq : m.map ofV = p at hp0 hch0 hrf0
  have HQ := Aside0.mk hq
  have HP0 := Aside0.mk hp0
  have HRF := Aside0.mk hrf0
  clear hp0 hrf0 hq
  refine HOv.out.mono ?_
  rintro e w5 ⟨hb5, hcase⟩
  have HB5 := Aside0.mk (HB4.out.trans (hb5.mono HB4.out.size))
  have HT5 := Aside0.mk (HT4.out.below hb5)
  have HC6 := Aside0.mk (Kd.C_below HC5.out hb5)
  have HP := Aside0.mk (posternlaw08_plain.calls (m.length + 1) B0 d0 m p w5 (Kd.C_below HD.out HB5.out) hd0 HP0.out)
  generalize hr : checkR (m.map tri) = r at hcase hch0
  obtain ⟨r1, r2⟩ := r
  have HRR := Aside0.mk hr
  have HCH := Aside0.mk hch0
  clear hr hb5 hch0 HOv HB4 HT4 HC5 HB2 HT2
  rcases hcase with ⟨hne, rfl⟩ | ⟨he, b, rfl, ht⟩
  · simp only at hne
    have hq0 : (r2 == (0 : Int)) = false := by simpa using hne
    have hq1 : (r2 != (0 : Int)) = true := by simpa using hne
    go_wp2_with fail
    refine HP.out.mono ?_
    rintro e w6 ⟨vr, rfl, hR6, hb6⟩
    obtain ⟨A6, c6, rfl, hl6, hC6⟩ := Kd.R_reads hR6
    have HB6 := Aside0.mk (HB5.out.trans (hb6.mono HB5.out.size))
    have HT6 := Aside0.mk (HT5.out.below hb6)
    have HK := Aside0.mk (posternref08_Check.calls (2 * m.length + 1) A6 c6 p _ _ w6 hC6 hl6 HCH.out)
    have HC7 := Aside0.mk (Kd.C_below HC6.out hb6)
    have HP6 := Aside0.mk hC6
    have HL6 := Aside0.mk hl6
    clear hR6 hC6 hb6 hl6 HP HB5 HT5 HC6
    go_wp2_with fail
    refine HK.out.mono ?_
    rintro e w7 ⟨rfl, hb7⟩
    have HB7 := Aside0.mk (HB6.out.trans (hb7.mono HB6.out.size))
    have HT7 := Aside0.mk (HT6.out.below hb7)
    have HW := Aside0.mk (posternlaw08_rows.calls (m.length + 1) A5 c5 m A6 c6 p true w7 (Kd.C_below HC7.out hb7) HL5.out (Kd.C_below HP6.out hb7) HL6.out HRF.out)
    clear hb7 HK HB6 HT6 HC7 HP6
    go_wp2_with fail
    refine HW.out.mono ?_
    rintro e w8 ⟨rfl, hb8⟩
    have HB8 := Aside0.mk (HB7.out.trans (hb8.below.mono HB7.out.size))
    have HT8 := Aside0.mk (HT7.out.below hb8.below)
    have HS := Aside0.mk (HT8.out.stands (c2 := c2) (Kd.C_below HZ.out HB8.out) HZF.out hzl 0)
    clear hb8 HW HB7 HT7
    have hrow := HROW.out
    clear HROW
    rcases hrow with ⟨rfl, rfl, rfl, rfl⟩ | ⟨rfl, rfl, rfl, rfl, rfl⟩
    all_goals
      go_wp2_with fail
      refine HS.out.mono ?_
      rintro e w9 ⟨rfl, hb9⟩
      have HB9 := Aside0.mk (HB8.out.trans (hb9.mono HB8.out.size))
      clear hb9
      go_wp2
      go_ret
      exact ⟨rfl, HB9.out⟩
  · have hok := checkR_ok (l := m.map tri) (by rw [HRR.out]; exact he)
    have e0 := HRR.out.symm.trans hok.1
    simp only [Prod.mk.injEq] at e0
    obtain ⟨rfl, rfl⟩ := e0
    obtain ⟨_, hklen, hkrise, hkpos⟩ := hok
    have hqk := HQ.out.symm.trans (natR_tri hkpos)
    have hkl : (natR (m.map tri)).length ≤ 65536 := by rw [natR_len]; exact hklen
    generalize natR (m.map tri) = k at ht hkrise hkl hqk
    have HTB5 := Aside0.mk ht
    have HKR := Aside0.mk hkrise
    have HQK := Aside0.mk hqk
    clear ht he hkrise hkpos hklen hqk
    go_wp2_with fail
    refine HP.out.mono ?_
    rintro e w6 ⟨vr, rfl, hR6, hb6⟩
    obtain ⟨A6, c6, rfl, hl6, hC6⟩ := Kd.R_reads hR6
    have HB6 := Aside0.mk (HB5.out.trans (hb6.mono HB5.out.size))
    have HTB6 := Aside0.mk (HTB5.out.below hb6)
    have HT6 := Aside0.mk (HT5.out.below hb6)
    have HK := Aside0.mk (posternref08_Check.calls (2 * m.length + 1) A6 c6 p _ _ w6 hC6 hl6 HCH.out)
    have HC7 := Aside0.mk (Kd.C_below HC6.out hb6)
    have HP6 := Aside0.mk hC6
    have HL6 := Aside0.mk hl6
    clear hR6 hC6 hb6 hl6 HP HB5 HT5 HC6
    go_wp2_with fail
    refine HK.out.mono ?_
    rintro e w7 ⟨rfl, hb7⟩
    have HB7 := Aside0.mk (HB6.out.trans (hb7.mono HB6.out.size))
    have HP7 := Aside0.mk (Kd.C_below HP6.out hb7)
    have HTB7 := Aside0.mk (HTB6.out.below hb7)
    have HT7 := Aside0.mk (HT6.out.below hb7)
    have HW := Aside0.mk (posternlaw08_rows.calls (m.length + 1) A5 c5 m A6 c6 p true w7 (Kd.C_below HC7.out hb7) HL5.out (Kd.C_below HP6.out hb7) HL6.out HRF.out)
    clear hb7 HK HB6 HT6 HTB6 HC7
    go_wp2_with fail
    refine HW.out.mono ?_
    rintro e w8 ⟨rfl, hb8⟩
    have HB8 := Aside0.mk (HB7.out.trans (hb8.below.mono HB7.out.size))
    have HTB8 := Aside0.mk (HTB7.out.below hb8.below)
    have HT8 := Aside0.mk (HT7.out.below hb8.below)
    have hC8 := Kd.C_below HP7.out hb8.below
    rw [HQK.out, List.length_map] at hC8
    have hl8 := HL6.out
    rw [HQK.out, List.length_map] at hl8
    have HO := Aside0.mk (overd_at w8 HT8.out HKR.out hkl (n6 := p.length) (by rw [HQK.out, List.length_map]) hl8 hC8)
    clear hb8 HW HB7 HT7 HTB7 HP6 HP7 hC8 hl8
    have hrow := HROW.out
    clear HROW
    rcases hrow with ⟨rfl, rfl, rfl, rfl⟩ | ⟨rfl, rfl, rfl, rfl, rfl⟩
    all_goals
      go_wp2_with fail
      refine HO.out.mono ?_
      rintro e w9 ⟨hb9, A9, c9, rfl, hl9, hC9⟩
      have HB9 := Aside0.mk (HB8.out.trans (hb9.mono HB8.out.size))
      have HT9 := Aside0.mk (HT8.out.below hb9)
      have HTB9 := Aside0.mk (HTB8.out.below hb9)
      have htab : Han w9 (some ⟨b, 0, none⟩) (sayQ (bothN q k)) := .inr ⟨b, rfl, by
        obtain ⟨g, cc, g', cc', h⟩ := HTB9.out
        exact ⟨g, cc, g', cc', by rw [tabSay_congr (fun p hp => bothN_says HT9.out.rise HKR.out p hp)]; exact h⟩⟩
      have hbl := (overN_cov HT9.out.rise HKR.out).length
      have hfew : (bothN q k).length ≤ 1114112 := by
        have h1 := nz_len (runsN [] 0 (overN q k))
        have h2 := (runsN_ok (overN_rise HT9.out.rise HKR.out)).length
        unfold bothN
        omega
      have HBT := Aside0.mk (show Tbl w9 (some ⟨b, 0, none⟩) (bothN q k) A9 (bothN q k).length c9 from ⟨rfl, htab, bothN_rise HT9.out.rise HKR.out, hfew, hl9, hC9⟩)
      have HSO := Aside0.mk (same_over q k HT9.out.rise HKR.out)
      have HSN := Aside0.mk (same_nil q)
      have HON := Aside0.mk (over_nil w9 _ _ HT9.out.han)
      generalize bothN q k = both at *
      generalize overSay k (sayQ q) = sayB at *
      generalize overSay (natR []) (sayQ q) = sayN at *
      clear hb9 htab hbl hfew hl9 hC9 HO HT8 HB8 HTB8
      go_wp2_with fail
      refine HON.out.mono ?_
      rintro e w10 ⟨hb10, b10, rfl, ht10⟩
      have HB10 := Aside0.mk (HB9.out.trans (hb10.mono HB9.out.size))
      have HT10 := Aside0.mk (HT9.out.below hb10)
      have HTB10 := Aside0.mk (HTB9.out.below hb10)
      have HBT10 := Aside0.mk (HBT.out.below hb10)
      have HTN10 := Aside0.mk ht10
      have HS := Aside0.mk (HBT10.out.stands (c2 := c2) (Kd.C_below HZ.out HB10.out) HZF.out hzl 1)
      clear hb10 ht10 HB9 HT9 HTB9 HBT HON
      go_wp2_with fail
      refine HS.out.mono ?_
      rintro e w11 ⟨rfl, hb11⟩
      have HB11 := Aside0.mk (HB10.out.trans (hb11.mono HB10.out.size))
      have HT11 := Aside0.mk (HT10.out.below hb11)
      have HTB11 := Aside0.mk (HTB10.out.below hb11)
      have HBT11 := Aside0.mk (HBT10.out.below hb11)
      have HTN11 := Aside0.mk (HTN10.out.below hb11)
      have HS2 := Aside0.mk (HT11.out.stands (c2 := c2) (Kd.C_below HZ.out HB11.out) HZF.out hzl 1)
      clear hb11 HB10 HT10 HTB10 HBT10 HTN10 HS
      go_wp2_with fail
      refine HS2.out.mono ?_
      rintro e w12 ⟨rfl, hb12⟩
      have HB12 := Aside0.mk (HB11.out.trans (hb12.mono HB11.out.size))
      have HT12 := Aside0.mk (HT11.out.below hb12)
      have HTB12 := Aside0.mk (HTB11.out.below hb12)
      have HBT12 := Aside0.mk (HBT11.out.below hb12)
      have HM := Aside0.mk (same_calls w12 (some ⟨b10, 0, none⟩) _ sayN _ (.inr ⟨b10, rfl, HTN11.out.below hb12⟩) HT12.out.han)
      clear hb12 HB11 HT11 HTB11 HBT11 HTN11 HS2
      rw [HSN.out] at HM
      go_wp2_with fail
      refine HM.out.mono ?_
      rintro e w13 ⟨rfl, hb13⟩
      have HB13 := Aside0.mk (HB12.out.trans (hb13.mono HB12.out.size))
      have HT13 := Aside0.mk (HT12.out.below hb13)
      have HBT13 := Aside0.mk (HBT12.out.below hb13)
      have HM2 := Aside0.mk (same_calls w13 (some ⟨b, 0, none⟩) _ sayB _ (.inr ⟨b, rfl, HTB12.out.below hb13⟩) HT13.out.han)
      clear hb13 HB12 HT12 HTB12 HBT12 HM
      rw [HSO.out] at HM2
      have hn1 := nz_len (runsN [] 0 both)
      have hn2 := runsN_ok HBT13.out.rise
      have hrf := rows_fg (a := nz (runsN [] 0 both)) (b := nz (runsN [] 0 q)) (by have := hn2.length; omega) (fun x hx => by
        have := hn2.mem x (List.mem_filter.1 hx).1
        omega)
      have hrows := HBT13.out.asked.rows
      have hleast := fun (W : World) (hW : Below w13.heap.size w13 W) => (HT13.out.below hW).least
      generalize nz (runsN [] 0 both) = N1 at HM2 hrf hrows
      generalize nz (runsN [] 0 q) = N2 at HM2 hrf hleast
      have HRF := Aside0.mk hrf
      have HRW := Aside0.mk hrows
      have HLE := Aside0.mk hleast
      clear hn1 hn2 hrf hrows hleast HT13 HBT13 HSO HSN
      generalize decide (N1 = N2) = same at HM2 HRF
      go_wp2_with fail
      refine HM2.out.mono ?_
      rintro e w14 ⟨rfl, hb14⟩
      have HB14 := Aside0.mk (HB13.out.trans (hb14.mono HB13.out.size))
      have HR := Aside0.mk (HRW.out w14 hb14)
      have HB1314 := Aside0.mk hb14
      clear hb14 HM2 HRW
      go_wp2_with fail
      refine HR.out.mono ?_
      rintro e w15 ⟨hb15, A15, c15, rfl, hl15, hC15⟩
      have HB15 := Aside0.mk (HB14.out.trans (hb15.mono HB14.out.size))
      have HE := Aside0.mk (HLE.out w15 (HB1314.out.trans (hb15.mono HB1314.out.size)))
      have HC15 := Aside0.mk hC15
      have HL15 := Aside0.mk hl15
      clear hb15 hC15 hl15 HR HLE HB1314 HB14
      go_wp2_with fail
      refine HE.out.mono ?_
      rintro e w16 ⟨hb16, A16, c16, rfl, hl16, hC16⟩
      have HB16 := Aside0.mk (HB15.out.trans (hb16.mono HB15.out.size))
      have hro := posternlaw08_rows.calls (N1.length + 1) A15 c15 (N1.map toV) A16 c16 (N2.map toS) same w16 (by rw [List.length_map]; exact Kd.C_below HC15.out hb16) (by rw [List.length_map]; exact HL15.out) (by rw [List.length_map]; exact hC16) (by rw [List.length_map]; exact hl16) HRF.out
      rw [List.length_map, List.length_map] at hro
      have HRO := Aside0.mk hro
      clear hb16 hC16 hl16 hro HE HC15 HL15 HB15
      go_wp2_with fail
      refine HRO.out.mono ?_
      rintro e w17 ⟨rfl, hb17⟩
      have HB17 := Aside0.mk (HB16.out.trans (hb17.below.mono HB16.out.size))
      clear hb17 HRO HB16
      have hbeq : (same == same) = true := beq_self_eq_true same
      go_wp2
      go_ret
      exact ⟨by simp, HB17.out⟩

end Go.Proofs.Ytajmbafljncjcaa.PStageOver
