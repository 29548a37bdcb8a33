/- StageMemory: the law's walk. -/
import Derived.Test.YtajmbafljncjcaaStoreVStageOver
namespace Go.Proofs.Ytajmbafljncjcaa.PStageOver
open Go.RowKit Go.Proofs.YtajmbafljncjcaaW.PrintWords Go.Proofs.YtajmbafljncjcaaW.PrintLast Go.Proofs.YtajmbafljncjcaaW.PrintMore Go.Proofs.Ytajmbafljncjcaa.Stage Go.Proofs.Ytajmbafljncjcaa.Mp
set_option linter.unusedVariables false
set_option linter.unusedSimpArgs false

theorem tabIn_ne {w : World} {b g c g' c' : Nat} {t : Tab} (h : TabIn w b g c g' c' t) {x : Nat} {n : Int} (hx : w.cell? ⟨x, 0, none⟩ = some (.int .i32 n)) : b ≠ x ∧ g ≠ x ∧ g' ≠ x := by
  have h0 := h.idx 0 (by omega)
  have h1 := h.hw 0 (by omega)
  have h2 := h.hub 0 0 (by omega) (by omega)
  have h3 := h.hpb 0 (by omega)
  refine ⟨fun e => ?_, fun e => ?_, fun e => ?_⟩
  · subst e; rw [h1] at hx; simp at hx
  · subst e; simp only [Nat.zero_mul, Nat.zero_add] at h2; rw [h2] at hx; simp at hx
  · subst e; rw [h3] at hx; simp at hx
theorem tabSays_grown {w w1 : World} {b : Nat} {say : Nat → Nat} (h : TabSays w b say) {x : Nat} {n : Int} (hx : w.cell? ⟨x, 0, none⟩ = some (.int .i32 n)) (hg : w.grownBy w1 (some x)) : TabSays w1 b say := by
  obtain ⟨g, c, g', c', ht⟩ := h
  obtain ⟨n1, n2, n3⟩ := tabIn_ne ht hx
  have keep : ∀ {a : Addr} {v : Value}, a.block ≠ x → w.cell? a = some v → w1.cell? a = some v := fun {a v} hne hc =>
    (World.cell?_of_block (hg.block a.block (World.block_lt_of_cell? w a hc) (fun e => hne (Option.some.inj e)))).trans hc
  exact ⟨g, c, g', c', { ht with
    hw := fun i hi => keep n1 (ht.hw i hi)
    hu := keep n1 ht.hu
    hp := keep n1 ht.hp
    hub := fun k j hk hj => keep n2 (ht.hub k j hk hj)
    hpb := fun k hk => keep n3 (ht.hpb k hk) }⟩
/-- A row of one type stays when a block of another one is written. -/
theorem R_other {α : Type} {d : Kd α} {e t base g : Nat} {w w1 : World} {ok : Nat → Prop} {v : Value} {xs : List α} (h : d.R e w base ok v xs) {cells : Array Value} (hb : w.heap[g]? = some (.cells cells t (0, 0))) (ht : ∀ q, q ∈ e :: d.E → q ≠ t) (hg : w.grownBy w1 (some g)) : d.R e w1 base ok v xs :=
  Kd.R_mono (Kd.R_grown (Kd.R_types h hb ht) hg (fun k hk e => hk.2 (Option.some.inj e))) (fun _ hk => hk.1)
theorem set_len {α : Type} (l : List α) (i : Nat) (x : α) : (l.set i x).length = l.length := List.length_set
theorem R_types_apart {α β : Type} {d : Kd α} {d2 : Kd β} {e e2 base base2 : Nat} {w w1 : World} {ok ok2 : Nat → Prop} {v v2 : Value} {xs : List α} {ys : List β} (h : d.R e w base ok v xs) (h2 : d2.R e2 w base2 ok2 v2 ys) (ht : ∀ q, q ∈ e :: d.E → e2 ≠ q) (hg : w.grownBy w1 v2.ownBlock) : d.R e w1 base ok v xs :=
  Kd.R_mono (Kd.R_grown (Kd.R_bound h) hg (fun k hk => by
    obtain ⟨_, _, _, q, hq, cells, hc⟩ := hk
    exact Kd.R_ne h2 hc (ht q hq))) (fun _ hk => hk.1)
theorem rd_set (xs : List S40) (i j : Nat) (y : S40) (hi : i < xs.length) : rd_T40 (xs.set i y) (j : Int) = if i = j then y else rd_T40 xs (j : Int) := by
  simp only [rd_T40, Int.toNat_natCast, List.getD_eq_getElem?_getD, List.getElem?_set]
  split
  · subst_vars; simp [hi]
  · rfl
theorem rd_app (xs : List S40) (j : Nat) (y : S40) (hj : j < xs.length) : rd_T40 (xs ++ [y]) (j : Int) = rd_T40 xs (j : Int) := by
  simp only [rd_T40, Int.toNat_natCast, List.getD_eq_getElem?_getD, List.getElem?_append_left hj]

/-- The table, and the rows that plain made. -/
theorem tbl_plain {w : World} {b : Nat} {q : List (Nat × Nat × Nat)} (ht : TabSays w b (sayQ q)) (hr : RiseN 0 q) (hl : q.length ≤ 65536) {p : List S30} (hp : p = q.map toS) {A : Option Addr} {c : Nat} (hc : p.length ≤ c) (hC : Kd.C k30 w A p.length p) : Tbl w (some ⟨b, 0, none⟩) q A p.length c := by
  subst hp
  rw [List.length_map] at hc hC ⊢
  exact ⟨rfl, .inr ⟨b, rfl, ht⟩, hr, by omega, hc, hC⟩

set_option maxRecDepth 100000 in
set_option maxHeartbeats 3200000 in
theorem memw_calls (w : World) (A0 : Option Addr) (c0 : Nat) (l : List S40) (hC : Kd.C k40 w A0 l.length l) (hc0 : l.length ≤ c0) (hf : Fits l) (hl : l.length ≤ 1048576) (n : Int) :
    Calls Try.prog 4 #[.slice A0 l.length c0, .int .i64 n] w (Yes w) := by
  have HC0 := Aside0.mk hC
  have HF := Aside0.mk hf
  have infoV' := infoV
  have HA := Aside0.mk (awake_calls w)
  clear hC hf
  go_enter Try.func4, Try.ntmps4
  go_wp2_with fail
  refine HA.out.mono ?_
  rintro e wa ⟨rfl, hba⟩
  have HBA := Aside0.mk hba
  clear hba HA
  go_wp2_with (first | ((with_reducible refine gate_dst (N := 19) rfl ?_); refine Kd.R_lit k40 _ 40 ?hg (N := 19) ?hd (xs := ([] : List S40)) (inner := []) (ok := fun _ => True) (okp := fun _ => True) ?hr ?hp (fun _ hk => hk) trivial (Below.refl _ _) (Nat.le_refl _) (by simp) ?_; (case hd => rfl); (case hg => rfl); (case hr => first | (go_simp; done) | (go_simp; rfl)); (case hp => exact (Reps.none _ _)); intro v1 w1 ho1 hb1 hg1 hn1; clear hg1 hn1; have HO1 := Aside0.mk ho1; have HB1 := Aside0.mk hb1; clear ho1 hb1) | ((with_reducible refine gate_builtin (b := .append) (xs := #[.tmp 19, .tmp 20]) rfl ?_); at_builtin; refine Kd.R_append_rows k40 (w0 := wa) wa.heap.size rfl (.tmp 19) (.tmp 20) 22 40 (.agg #[.int .i32 0, .int .i32 0, .int .i64 0]) 16 rfl Try.underlying22 infoV' rfl (by decide) (by omega) v1 [] l _ _ _ (fun _ => True) (fun _ => False) rfl rfl HO1.out (Kd.C_below HC0.out (HBA.out.trans (HB1.out.mono HBA.out.size))) (fun _ _ h => h) (fun _ h => h.elim) (fun _ _ => trivial) HB1.out HB1.out.size (by simp only [List.length_nil]; omega) ?_; intro v2 w2 ho2 hb2 hg2 hat2; clear hg2 hat2; rw [List.nil_append] at ho2; have HO2 := Aside0.mk ho2; obtain ⟨A2, c2, g2, rfl, hl2, hm2, hA2, hR2, hC2⟩ := rowsI_of_R ho2; have HBa2 := Aside0.mk hb2; have HB2 := Aside0.mk (HBA.out.trans (hb2.mono HBA.out.size)); have HC2 := Aside0.mk hC2; have HL2 := Aside0.mk hl2; have HBu := Aside0.mk (build_at w2 g2 c2 A2 l hA2 hR2 hl2 hm2); clear ho2 hb2 hA2 hR2 hC2 HO1 hl2 hm2 HB1))
  refine HBu.out.mono ?_
  rintro e w3 ⟨hb3, hcase⟩
  have HB3 := Aside0.mk (HB2.out.trans (hb3.mono HB2.out.size))
  have HBa3 := Aside0.mk (HBa2.out.trans (hb3.mono HBa2.out.size))
  have HO3 := Aside0.mk (Kd.R_below HO2.out hb3)
  have hp0 := plain_f HF.out hl
  have hch0 := check_f l
  generalize hq : l.map ofV = p at hp0 hch0
  have HQ := Aside0.mk hq
  have HP0 := Aside0.mk hp0
  have HP := Aside0.mk (posternlaw08_plain.calls (l.length + 1) A0 c0 l p w3 (Kd.C_below HC0.out HB3.out) hc0 hp0)
  have HCH := Aside0.mk hch0
  clear hp0 hch0 hq
  generalize hr : checkR (l.map tri) = r at hcase HCH
  obtain ⟨r1, r2⟩ := r
  have HRR := Aside0.mk hr
  clear hr hb3 HBu HB2 HO2 HC2 HBa2
  rcases hcase with ⟨hne, rfl⟩ | ⟨he, b, rfl, ht⟩
  · simp only at hne
    have hq0 : (r2 == (0 : Int)) = false := by simpa using hne
    have hq1 : (r2 != (0 : Int)) = true := by simpa using hne
    go_wp2_with fail
    refine HP.out.mono ?_
    rintro e w4 ⟨vr, rfl, hR4, hb4⟩
    obtain ⟨A4, c4, rfl, hl4, hC4⟩ := Kd.R_reads hR4
    have HB4 := Aside0.mk (HB3.out.trans (hb4.mono HB3.out.size))
    have HK := Aside0.mk (posternref08_Check.calls (2 * l.length + 1) A4 c4 p _ _ w4 hC4 hl4 HCH.out)
    clear hR4 hC4 hb4 hl4 HP
    go_wp2_with fail
    refine HK.out.mono ?_
    rintro e w5 ⟨rfl, hb5⟩
    have HB5 := Aside0.mk (HB4.out.trans (hb5.mono HB4.out.size))
    clear hb5 HK
    go_wp2
    go_ret
    exact ⟨rfl, HB5.out⟩
  · have hok := checkR_ok (l := l.map tri) (by rw [HRR.out]; exact he)
    have e0 := HRR.out.symm.trans hok.1
    simp only [Prod.mk.injEq] at e0
    obtain ⟨rfl, rfl⟩ := e0
    obtain ⟨_, hqlen, hrise, hpos⟩ := hok
    have hqk := HQ.out.symm.trans (natR_tri hpos)
    have hql : (natR (l.map tri)).length ≤ 65536 := by rw [natR_len]; exact hqlen
    generalize natR (l.map tri) = q at ht hrise hql hqk
    have HT := Aside0.mk (show TabSays w3 b (sayQ q) from ht)
    have HRI := Aside0.mk hrise
    have HQK := Aside0.mk hqk
    clear ht he hrise hpos hqlen hqk
    go_wp2_with fail
    refine HP.out.mono ?_
    rintro e w4 ⟨vr, rfl, hR4, hb4⟩
    obtain ⟨A4, c4, rfl, hl4, hC4⟩ := Kd.R_reads hR4
    have HB4 := Aside0.mk (HB3.out.trans (hb4.mono HB3.out.size))
    have HBa4 := Aside0.mk (HBa3.out.trans (hb4.mono HBa3.out.size))
    have HT4 := Aside0.mk (HT.out.below hb4)
    have HO4 := Aside0.mk (Kd.R_below HO3.out hb4)
    have HK := Aside0.mk (posternref08_Check.calls (2 * l.length + 1) A4 c4 p _ _ w4 hC4 hl4 HCH.out)
    clear hR4 hC4 hb4 hl4 HP HB3 HT HO3 HBa3
    go_wp2_with fail
    refine HK.out.mono ?_
    rintro e w5 ⟨rfl, hb5⟩
    have HBa5 := Aside0.mk (HBa4.out.trans (hb5.mono HBa4.out.size))
    have HT5 := Aside0.mk (HT4.out.below hb5)
    have HO5 := Aside0.mk (Kd.R_below HO4.out hb5)
    clear hb5 HK HB4 HT4 HO4 HBa4
    go_wp2
    go_loopg [41] (l.length + 1) (fun k v41 wr => ∃ i : Nat, i ≤ l.length ∧ l.length + 1 - i ≤ k ∧ v41 = .int .i64 (i : Int) ∧ Aside0 (∃ xs : List S40, xs.length = l.length ∧ Kd.R k40 40 wr wa.heap.size (fun _ => True) (.slice A2 l.length c2) xs) ∧ Aside0 (Below wa.heap.size wa wr) ∧ Aside0 (TabSays wr b (sayQ q)))
    case atStart => exact ⟨0, by omega, by omega, rfl, ⟨l, rfl, HO5.out⟩, HBa5, HT5⟩
    case round =>
      obtain ⟨i, hi, hk, rfl, hO, hB, hT⟩ := hrel
      clear HO5 HBa5 HT5
      by_cases hlt : i < l.length
      · have hlt' : (i : Int) < (l.length : Int) := by omega
        obtain ⟨xs, hxl, hR⟩ := hO.out
        obtain ⟨g, cells, rfl, _, _⟩ := R_head hR (by omega)
        have HK := Aside0.mk (R_cellsV hR 0 (by omega)).2.1
        rw [Nat.zero_mul] at HK
        have HXL := Aside0.mk hxl
        have HR := Aside0.mk hR
        clear hR hxl hO
        go_wp2_with (first | ((with_reducible refine gate_store (t := 40) (p := 47) rfl ?_); refine store_V (w0 := wa) wa.heap.size rfl rfl (.tmp 47) (.tmp 46) rfl i xs ⟨7, 7, 7⟩ rfl rfl HR.out (by rw [HXL.out]; exact hlt) hB.out ?_; intro w6 hr6 hb6 hg6; have HR6 := Aside0.mk hr6; have HB6 := Aside0.mk hb6; have HT6 := Aside0.mk (tabSays_grown hT.out HK.out hg6); clear hr6 hb6 hg6))
        go_roundg (gk - 1)
        case measure => omega
        case rel => exact ⟨i + 1, by omega, by omega, by go_num, ⟨_, by rw [set_len]; exact HXL.out, HR6.out⟩, HB6, HT6⟩
      · have hlt' : ¬ (i : Int) < (l.length : Int) := by omega
        have HB5 := Aside0.mk (HBA.out.trans (hB.out.mono HBA.out.size))
        have HT5 := hT
        clear hO hB hT
        go_wp2
        go_loopg [49] 3 (fun k v49 wr => ∃ r : Nat, r ≤ 2 ∧ 3 - r ≤ k ∧ v49 = .int .i64 (r : Int) ∧ Aside0 (Below w.heap.size w wr) ∧ Aside0 (TabSays wr b (sayQ q)))
        case atStart => exact ⟨0, by omega, by omega, rfl, HB5, HT5⟩
        case round =>
          obtain ⟨r, hr, hrk, rfl, hB, hT⟩ := hrel
          clear HB5 HT5
          obtain ⟨gko, rfl⟩ : ∃ n, n = gk := ⟨_, rfl⟩
          by_cases hr2 : r < 2
          · have hr2' : (r : Int) < 2 := by omega
            obtain ⟨wo, rfl⟩ : ∃ x, x = wr := ⟨_, rfl⟩
            have HRW := Aside0.mk (rows_calls wo (some ⟨b, 0, none⟩) (sayQ q) (.inr ⟨b, rfl, hT.out⟩))
            go_wp2_with fail
            refine HRW.out.mono ?_
            rintro e x1 ⟨hb1, vr, rs, rfl, htil, hR⟩
            obtain rfl : rs = runsN [] 0 q := htil.uniq (runsN_ok HRI.out)
            have HX1 := Aside0.mk hb1
            have HR1 := Aside0.mk hR
            have HSE := Aside0.mk (set_calls x1 (some ⟨b, 0, none⟩) (sayQ q) (.inr ⟨b, rfl, hT.out.below hb1⟩) n)
            clear hb1 hR htil HRW
            go_wp2_with fail
            refine HSE.out.mono ?_
            rintro e x2 ⟨hb2, vs, rs, rfl, htil, hS⟩
            obtain rfl : rs = runsN [] 0 q := htil.uniq (runsN_ok HRI.out)
            have HX2 := Aside0.mk (HX1.out.trans (hb2.mono HX1.out.size))
            have HR2 := Aside0.mk (Kd.R_below HR1.out hb2)
            have HS2 := Aside0.mk (Kd.R_lower hS HX1.out.size)
            have HPL := Aside0.mk (posternlaw08_plain.calls (l.length + 1) A0 c0 l p x2 (Kd.C_below HC0.out (hB.out.trans (HX2.out.mono hB.out.size))) hc0 HP0.out)
            obtain ⟨Ar, cr, rfl, hcr, -⟩ := Kd.R_reads HR2.out
            obtain ⟨As, cs, rfl, hcs, -⟩ := Kd.R_reads HS2.out
            rw [List.length_map] at hcr hcs HR2 HS2 ⊢
            clear hb2 hS htil HSE HR1 HX1
            have htilR := runsN_ok HRI.out
            have hnl := nz_len (runsN [] 0 q)
            have hol := ofN_len n (runsN [] 0 q)
            have hRl := htilR.length
            have HRF := Aside0.mk (rows_fq (q := nz (runsN [] 0 q)) (by omega) (fun x hx => by
              have := htilR.mem x (List.mem_filter.1 hx).1
              omega))
            have HSF := Aside0.mk (spans_f (q := runsN [] 0 q) (by omega) n htilR)
            clear htilR
            go_wp2_with fail
            refine HPL.out.mono ?_
            rintro e x3 ⟨vp, rfl, hR3, hb3⟩
            obtain ⟨A3, c3, rfl, hl3, hC3⟩ := Kd.R_reads hR3
            have HX3 := Aside0.mk (HX2.out.trans (hb3.mono HX2.out.size))
            have HR3 := Aside0.mk (Kd.R_below HR2.out hb3)
            have HS3 := Aside0.mk (Kd.R_below HS2.out hb3)
            have HLE := Aside0.mk (tbl_plain (hT.out.below HX3.out) HRI.out hql HQK.out hl3 hC3).least
            clear hR3 hb3 hl3 hC3 HPL HX2 HR2 HS2
            go_wp2_with fail
            refine HLE.out.mono ?_
            rintro e x4 ⟨hb4, A4', c4', rfl, hl4, hC4⟩
            have HX4 := Aside0.mk (HX3.out.trans (hb4.mono HX3.out.size))
            have HR4 := Aside0.mk (Kd.R_below HR3.out hb4)
            have HS4 := Aside0.mk (Kd.R_below HS3.out hb4)
            obtain ⟨Ar', cr', hvr, _, hCr⟩ := Kd.R_reads HR4.out
            injection hvr with e1 e2 e3
            subst e1
            have hro := posternlaw08_rows.calls _ Ar cr ((nz (runsN [] 0 q)).map toV) A4' c4' ((nz (runsN [] 0 q)).map toS) true x4 hCr (by rw [List.length_map]; exact hcr) (by rw [List.length_map]; exact hC4) (by rw [List.length_map]; exact hl4) HRF.out
            rw [List.length_map, List.length_map] at hro
            have HRO := Aside0.mk hro
            clear hb4 hl4 hC4 hCr hro e2 e3 HLE HX3 HR3 HS3 HRF
            go_wp2_with fail
            refine HRO.out.mono ?_
            rintro e x5 ⟨rfl, hb5⟩
            have hb5 := hb5.below
            have HX5 := Aside0.mk (HX4.out.trans (hb5.mono HX4.out.size))
            have HR5 := Aside0.mk (Kd.R_below HR4.out hb5)
            have HS5 := Aside0.mk (Kd.R_below HS4.out hb5)
            have HPL := Aside0.mk (posternlaw08_plain.calls (l.length + 1) A0 c0 l p x5 (Kd.C_below HC0.out (hB.out.trans (HX5.out.mono hB.out.size))) hc0 HP0.out)
            clear hb5 HRO HX4 HR4 HS4
            go_wp2_with fail
            refine HPL.out.mono ?_
            rintro e x6 ⟨vp, rfl, hR6, hb6⟩
            obtain ⟨A6, c6, rfl, hl6, hC6⟩ := Kd.R_reads hR6
            have HX6 := Aside0.mk (HX5.out.trans (hb6.mono HX5.out.size))
            have HR6 := Aside0.mk (Kd.R_below HR5.out hb6)
            have HS6 := Aside0.mk (Kd.R_below HS5.out hb6)
            have htb := tbl_plain (hT.out.below HX6.out) HRI.out hql HQK.out hl6 hC6
            have hru := htb.asked.runs x6 (Below.refl _ _)
            rw [htb.len] at hru
            have HRU := Aside0.mk hru
            clear hR6 hb6 hl6 hC6 HPL htb hru HX5 HR5 HS5
            go_wp2_with fail
            refine HRU.out.mono ?_
            rintro e x7 ⟨hb7, A7, c7, rfl, hl7, hC7⟩
            have HX7 := Aside0.mk (HX6.out.trans (hb7.mono HX6.out.size))
            have HR7 := Aside0.mk (Kd.R_below HR6.out hb7)
            have HS7 := Aside0.mk (Kd.R_below HS6.out hb7)
            obtain ⟨As', cs', hvs, _, hCs⟩ := Kd.R_reads HS7.out
            injection hvs with e1 e2 e3
            subst e1
            have hso := posternlaw08_spans.calls _ As cs ((ofN n (runsN [] 0 q)).map toP) A7 c7 ((runsN [] 0 q).map toS) n true x7 hCs (by rw [List.length_map]; exact hcs) (by rw [List.length_map]; exact hC7) (by rw [List.length_map]; exact hl7) HSF.out
            rw [List.length_map, List.length_map] at hso
            have HSO := Aside0.mk hso
            clear hb7 hl7 hC7 hCs hso e2 e3 HRU HX6 HR6 HS6 HSF
            have hnl2 : ((nz (runsN [] 0 q)).map toV).length = (nz (runsN [] 0 q)).length := List.length_map ..
            have hol2 : ((ofN n (runsN [] 0 q)).map toP).length = (ofN n (runsN [] 0 q)).length := List.length_map ..
            generalize (nz (runsN [] 0 q)).map toV = xs0 at HR7 hnl2
            generalize (ofN n (runsN [] 0 q)).map toP = ys0 at HS7 hol2
            generalize (nz (runsN [] 0 q)).length = N at *
            generalize (ofN n (runsN [] 0 q)).length = M at *
            generalize (runsN [] 0 q).length = RL at *
            have hN : N ≤ 1114112 := by omega
            have hM : M ≤ 1114112 := by omega
            have HN2 := Aside0.mk hnl2
            have HM2 := Aside0.mk hol2
            clear hnl hol hRl hnl2 hol2
            go_wp2_with fail
            refine HSO.out.mono ?_
            rintro e x8 ⟨rfl, hb8⟩
            have HX8 := Aside0.mk (HX7.out.trans (hb8.mono HX7.out.size))
            have HR8 := Aside0.mk (Kd.R_below HR7.out hb8)
            have HS8 := Aside0.mk (Kd.R_below HS7.out hb8)
            clear hb8 HSO HX7 HR7 HS7
            go_wp2
            go_loopg [73] (N + 1) (fun k v73 wr => ∃ i : Nat, i ≤ N ∧ N + 1 - i ≤ k ∧ v73 = .int .i64 (i : Int) ∧ Aside0 (Below wo.heap.size wo wr) ∧ Aside0 (∃ xs : List S40, xs.length = N ∧ (∀ j, j < i → (rd_T40 xs (j : Int)).f2 = -1) ∧ Kd.R k40 40 wr wo.heap.size (fun _ => True) (.slice Ar N cr) xs) ∧ Aside0 (Kd.R k47 47 wr wo.heap.size (fun _ => True) (.slice As M cs) ys0))
            case atStart => exact ⟨0, by omega, by omega, rfl, HX8, ⟨xs0, HN2.out, fun j hj => absurd hj (Nat.not_lt_zero j), HR8.out⟩, HS8⟩
            case round =>
              obtain ⟨i, hi, hik, rfl, hX, hR, hS⟩ := hrel
              clear HX8 HR8 HS8
              by_cases hlt : i < N
              · have hlt' : (i : Int) < (N : Int) := by omega
                obtain ⟨xs, hxl, hneg, hRR⟩ := hR.out
                obtain ⟨g, cells, rfl, _, _⟩ := R_head hRR (by omega)
                have HR := Aside0.mk hRR
                have HXL := Aside0.mk hxl
                have HNEG := Aside0.mk hneg
                clear hRR hxl hneg hR
                go_wp2_with (first | ((with_reducible refine gate_store (t := 3) (p := 79) rfl ?_); refine store_VN (w0 := wo) wo.heap.size rfl rfl (.tmp 79) (.const (.int .i64 (-1))) rfl i xs (-1) rfl rfl HR.out (by rw [HXL.out]; exact hlt) hX.out ?_; intro x9 hr9 hb9 hg9; have HR9 := Aside0.mk hr9; have HX9 := Aside0.mk hb9; have HS9 := Aside0.mk (R_types_apart hS.out HR.out (by decide) hg9); clear hr9 hb9 hg9))
                go_roundg (gk - 1)
                case measure => omega
                case rel => exact ⟨i + 1, by omega, by omega, by go_num, HX9, ⟨_, by rw [set_len]; exact HXL.out, fun j hj => by
                  rw [rd_set _ _ _ _ (by rw [HXL.out]; exact hlt)]
                  split
                  · rfl
                  · exact HNEG.out j (by omega), HR9.out⟩, HS9⟩
              · have hlt' : ¬ (i : Int) < (N : Int) := by omega
                obtain rfl : i = N := by omega
                have HX8 := hX
                have HR8 := hR
                have HS8 := hS
                clear hX hR hS
                go_wp2
                go_loopg [83] (M + 1) (fun k v83 wr => ∃ i2 : Nat, i2 ≤ M ∧ M + 1 - i2 ≤ k ∧ v83 = .int .i64 (i2 : Int) ∧ Aside0 (Below wo.heap.size wo wr) ∧ Aside0 (∃ xs : List S40, xs.length = i ∧ (∀ j, j < i → (rd_T40 xs (j : Int)).f2 = -1) ∧ Kd.R k40 40 wr wo.heap.size (fun _ => True) (.slice Ar i cr) xs) ∧ Aside0 (∃ ys : List S47, ys.length = M ∧ Kd.R k47 47 wr wo.heap.size (fun _ => True) (.slice As M cs) ys))
                case atStart => exact ⟨0, by omega, by omega, rfl, HX8, HR8, ⟨ys0, HM2.out, HS8.out⟩⟩
                case round =>
                  obtain ⟨i2, hi2, hi2k, rfl, hX, hR, hS⟩ := hrel
                  clear HX8 HR8 HS8
                  by_cases hlt2 : i2 < M
                  · have hlt2' : (i2 : Int) < (M : Int) := by omega
                    obtain ⟨ys, hyl, hSS⟩ := hS.out
                    obtain ⟨xs, hxl, hneg, hRR⟩ := hR.out
                    obtain ⟨g, cells, rfl, _, _⟩ := R_head hSS (by omega)
                    have HS := Aside0.mk hSS
                    have HYL := Aside0.mk hyl
                    have HXN := Aside0.mk (And.intro hxl hneg)
                    have HR := Aside0.mk hRR
                    clear hSS hyl hR hS hxl hneg hRR
                    go_wp2_with (first | ((with_reducible refine gate_store (t := 21) (p := 89) rfl ?_); refine store_PF (w0 := wo) wo.heap.size rfl rfl (.tmp 89) (.const (.int .i32 (-1))) rfl i2 ys (-1) rfl rfl HS.out (by rw [HYL.out]; exact hlt2) hX.out ?_; intro x9 hr9 hb9 hg9; have HS9 := Aside0.mk hr9; have HX9 := Aside0.mk hb9; have HR9 := Aside0.mk (R_types_apart HR.out HS.out (by decide) hg9); clear hr9 hb9 hg9))
                    go_roundg (gk - 1)
                    case measure => omega
                    case rel => exact ⟨i2 + 1, by omega, by omega, by go_num, HX9, ⟨xs, HXN.out.1, HXN.out.2, HR9.out⟩, ⟨_, by rw [set_len]; exact HYL.out, HS9.out⟩⟩
                  · have hlt2' : ¬ (i2 : Int) < (M : Int) := by omega
                    obtain rfl : i2 = M := by omega
                    have HX8 := hX
                    have HR8 := hR
                    have HS8 := hS
                    clear hX hR hS
                    go_wp2
                    obtain ⟨g3, rfl⟩ : ∃ x, x = gk := ⟨_, rfl⟩
                    have infoP' := infoP
                    go_loopg [12, 13, 91] 10 (fun k v12 v13 v91 wr => ∃ m : Nat, m ≤ 9 ∧ 10 - m ≤ k ∧ v91 = .int .i64 (m : Int) ∧ Aside0 (Below wo.heap.size wo wr) ∧ Aside0 (∃ xs : List S40, xs.length = i + m ∧ (∀ j, j < i → (rd_T40 xs (j : Int)).f2 = -1) ∧ Kd.R k40 40 wr wo.heap.size (fun _ => True) v12 xs) ∧ Aside0 (∃ ys : List S47, ys.length = i2 + m ∧ Kd.R k47 47 wr wo.heap.size (fun _ => True) v13 ys))
                    case atStart => exact ⟨0, by omega, by omega, rfl, HX8, HR8, HS8⟩
                    case round =>
                      obtain ⟨m, hm9, hmk, rfl, hX, hR, hS⟩ := hrel
                      clear HX8 HR8 HS8
                      by_cases hlt5 : m < 9
                      · have hlt5' : (m : Int) < 9 := by omega
                        obtain ⟨xs, hxl, hneg, hRR⟩ := hR.out
                        obtain ⟨ys, hyl, hSS⟩ := hS.out
                        have HR := Aside0.mk hRR
                        have HS := Aside0.mk hSS
                        have HXN := Aside0.mk (And.intro hxl hneg)
                        have HYL := Aside0.mk hyl
                        clear hRR hSS hxl hneg hyl hR hS
                        go_wp2_with (first | ((with_reducible refine gate_builtin (b := .append) (xs := #[.tmp 93, .tmp 95]) rfl ?_); at_builtin; refine Kd.R_append k40 (w0 := wo) wo.heap.size rfl (.tmp 93) (.tmp 95) 22 40 (.agg #[.int .i32 0, .int .i32 0, .int .i64 0]) 16 rfl Try.underlying22 infoV' rfl (by decide) (by omega) _ xs ⟨0, 0, -2⟩ [.int .i32 0, .int .i32 0, .int .i64 (-2)] (fun _ => True) (fun _ => False) rfl rfl (k40_mkM _ _ _ (⟨0, 0, -2⟩ : S40)) (fun _ hk => hk.elim) (fun _ _ => trivial) HR.out hX.out hX.out.size (by have h := HXN.out.1; omega) ?_; intro v1 y1 ho1 hb1 hg1 hat1; have HR1 := Aside0.mk ho1; have HX1 := Aside0.mk hb1; have HS1 := Aside0.mk (R_types_apart HS.out HR.out (by decide) hg1); clear ho1 hb1 hg1 hat1) | ((with_reducible refine gate_builtin (b := .append) (xs := #[.tmp 97, .tmp 99]) rfl ?_); at_builtin; refine Kd.R_append k47 (w0 := wo) wo.heap.size rfl (.tmp 97) (.tmp 99) 42 47 (.agg #[.int .i32 0, .int .i32 0]) 8 rfl Try.underlying42 infoP' rfl (by decide) (by omega) _ ys ⟨-2, 0⟩ [.int .i32 (-2), .int .i32 0] (fun _ => True) (fun _ => False) rfl rfl (k47_mkM _ _ _ (⟨-2, 0⟩ : S47)) (fun _ hk => hk.elim) (fun _ _ => trivial) HS1.out HX1.out HX1.out.size (by have h := HYL.out; omega) ?_; intro v2 y2 ho2 hb2 hg2 hat2; have HS2 := Aside0.mk ho2; have HX2 := Aside0.mk hb2; have HR2 := Aside0.mk (R_types_apart HR1.out HS1.out (by decide) hg2); clear ho2 hb2 hg2 hat2))
                        go_roundg (gk - 1)
                        case measure => omega
                        case rel => exact ⟨m + 1, by omega, by omega, by go_num, HX2, ⟨_, by rw [List.length_append, HXN.out.1]; rfl, fun j hj => by rw [rd_app _ _ _ (by rw [HXN.out.1]; omega)]; exact HXN.out.2 j hj, HR2.out⟩, ⟨_, by rw [List.length_append, HYL.out]; rfl, HS2.out⟩⟩
                      · have hlt5' : ¬ (m : Int) < 9 := by omega
                        obtain rfl : m = 9 := by omega
                        obtain ⟨xs, hxl, hneg, hRR⟩ := hR.out
                        obtain ⟨A, c, hv, _, hC⟩ := Kd.R_reads hRR
                        rw [hxl] at hv hC
                        subst hv
                        have HX8 := hX
                        have HC8 := Aside0.mk hC
                        have HNEG := Aside0.mk hneg
                        have HXL := Aside0.mk hxl
                        clear hRR hxl hneg hR hS hC hX
                        go_wp2
                        obtain ⟨g5, rfl⟩ : ∃ x, x = gk := ⟨_, rfl⟩
                        go_loopg [105] (i + 1) (fun k v105 wr => ∃ j : Nat, j ≤ i ∧ i + 1 - j ≤ k ∧ v105 = .int .i64 (j : Int) ∧ Aside0 (Below wo.heap.size wo wr) ∧ Aside0 (Kd.C k40 wr A (i + 9) xs))
                        case atStart => exact ⟨0, by omega, by omega, rfl, HX8, HC8⟩
                        case round =>
                          obtain ⟨j, hj, hjk, rfl, hX, hC⟩ := hrel
                          clear HX8 HC8
                          by_cases hlt6 : j < i
                          · have hlt6' : (j : Int) < (i : Int) := by omega
                            obtain ⟨ad, rfl, k0, k1, k2⟩ := at_T40 hC.out (j : Int) (by omega) (by omega)
                            rw [HNEG.out j hlt6, Int.toNat_natCast] at k2
                            clear k0 k1
                            go_wp2
                            go_roundg (gk - 1)
                            case measure => omega
                            case rel => exact ⟨j + 1, by omega, by omega, by go_num, hX, hC⟩
                          · have hlt6' : ¬ (j : Int) < (i : Int) := by omega
                            have HBE := Aside0.mk (hB.out.trans (hX.out.mono hB.out.size))
                            have HTE := Aside0.mk (hT.out.below hX.out)
                            clear hX hC
                            go_wp2
                            go_roundg (gko - 1)
                            case measure => omega
                            case rel => exact ⟨r + 1, by omega, by omega, by go_num, HBE, HTE⟩
          · have hr2' : ¬ (r : Int) < 2 := by omega
            have HB := hB
            clear hB hT
            go_wp2
            go_ret
            exact ⟨rfl, HB.out⟩

end Go.Proofs.Ytajmbafljncjcaa.PStageOver
