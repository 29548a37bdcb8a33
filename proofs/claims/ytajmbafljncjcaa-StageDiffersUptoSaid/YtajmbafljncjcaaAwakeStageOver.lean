/- awake, built: the law's own first calls. -/
import Derived.Test.YtajmbafljncjcaaRefAStageOver
import Derived.Test.YtajmbafljncjcaaStD
namespace Go.Proofs.Ytajmbafljncjcaa.PStageOver
open Go.RowKit Go.Proofs.YtajmbafljncjcaaW.PrintWords Go.Proofs.YtajmbafljncjcaaW.PrintLast Go.Proofs.YtajmbafljncjcaaW.PrintMore Go.Proofs.Ytajmbafljncjcaa.Stage Go.Proofs.Ytajmbafljncjcaa.Mp
set_option linter.unusedVariables false
set_option linter.unusedSimpArgs false

theorem infoV : (Try.prog.info? 40).map (fun i => (i.zero, i.size, i.bytes)) = some (some (.agg #[(.int .i32 0), (.int .i32 0), (.int .i64 0)]), 3, 16) := by kernel_rfl

theorem rowsI_of_R {w : World} {base : Nat} {e : TypeId} {ok : Nat → Prop} {v : Value} {xs : List S40} (h : Kd.R k40 e w base ok v xs) :
    ∃ A c g, v = .slice A xs.length c ∧ xs.length ≤ c ∧ xs.length ≤ 9223372036854775807 ∧ (0 < (xs.map tri).length → A = some ⟨g, 0, none⟩) ∧ RowsI w g 0 (xs.map tri) ∧ Kd.C k40 w A xs.length xs := by
  obtain ⟨A, c, hv, hl, hC⟩ := Kd.R_reads h
  have hm := Kd.C_max hC
  obtain ⟨inner, how⟩ := Kd.R_own h
  rcases how.2 with ⟨h0, hz⟩ | ⟨g, cap, cur, hv', _⟩
  · refine ⟨A, c, 0, hv, hl, hm, fun hp => ?_, fun i hi => ?_, hC⟩
    · rw [List.length_map] at hp; omega
    · rw [List.length_map] at hi; omega
  · have hA : A = some ⟨g, 0, none⟩ := by
      rw [hv] at hv'
      injection hv'
    refine ⟨A, c, g, hv, hl, hm, fun _ => hA, fun i hi => ?_, hC⟩
    rw [List.length_map] at hi
    obtain ⟨ad, e1, k0, k1, k2⟩ := at_T40 hC (i : Int) (by omega) (by omega)
    rw [hA] at e1
    cases e1
    rw [Int.toNat_natCast, Addr.add_lit] at k0 k1 k2
    have eg : (xs.map tri).getD i (0, 0, 0) = tri (rd_T40 xs (i : Int)) := by
      simp [rd_T40, List.getD_eq_getElem?_getD, List.getElem?_map, List.getElem?_eq_getElem hi]
    rw [eg]
    exact ⟨k0, k1, k2⟩

def Yes (w : World) (e : Ending) (w' : World) : Prop := e = .returned (.bool true) ∧ Below w.heap.size w w'

set_option maxRecDepth 100000 in
set_option maxHeartbeats 800000 in
theorem awake_calls (w : World) : Calls Try.prog 15 #[] w (Yes w) := by
  go_enter Try.func15, Try.ntmps15
  go_wp2_with (first | ((with_reducible refine gate_dst (N := 6) rfl ?_); refine Kd.R_lit k40 _ 40 ?hg (N := 6) ?hd (xs := ([⟨65, 90, 1⟩] : List S40)) (inner := [.int .i32 65, .int .i32 90, .int .i64 1]) (ok := fun _ => True) (okp := fun _ => True) ?hr ?hp (fun _ hk => hk) trivial (Below.refl _ _) (Nat.le_refl _) (by simp) ?_; (case hd => rfl); (case hg => rfl); (case hr => first | (go_simp; done) | (go_simp; rfl)); (case hp => exact (Reps.none _ _ |>.snoc (p := (⟨65, 90, 1⟩ : S40)) (k40_mkM _ _ _ _) rfl)); intro v1 w1 ho1 hb1 hg1 hn1; clear hg1 hn1; obtain ⟨A1, c1, g1, rfl, hl1, hm1, hA1, hR1, hC1⟩ := rowsI_of_R ho1; have HB1 := Aside0.mk hb1; have HC1 := Aside0.mk (build_calls w1 g1 0 c1 A1 _ hA1 hR1 hl1 hm1); clear ho1 hb1 hA1 hR1 hC1))
  refine HC1.out.mono ?_
  rintro e w2 ⟨hb2, ⟨hne, rfl⟩ | ⟨he, b, rfl, ht⟩⟩
  · exact absurd rfl hne
  have ht' : TabSays w2 b saidA := ht
  have HB2 := Aside0.mk (HB1.out.trans (hb2.mono HB1.out.size))
  have HL1 := Aside0.mk (look_calls w2 _ saidA (.inr ⟨b, rfl, ht'⟩) 65)
  have HT := Aside0.mk ht'
  clear hb2 ht ht' he
  go_wp2_with fail
  refine HL1.out.mono ?_
  rintro e w3 ⟨rfl, n, rfl⟩
  rw [show lookI saidA 65 = 1 from by unfold lookI; rw [if_pos (by decide)]; rw [saidA_eq]; rfl]
  have HL2 := Aside0.mk (look_calls (w2.drewN n) _ saidA (.inr ⟨b, rfl, HT.out.below (pw_below_drewN (Below.refl _ _) n)⟩) 64)
  go_wp2_with fail
  refine HL2.out.mono ?_
  rintro e w3 ⟨rfl, m, rfl⟩
  rw [show lookI saidA 64 = 0 from by unfold lookI; rw [if_pos (by decide)]; rw [saidA_eq]; rfl]
  have hb3 : Below w2.heap.size w2 (w2.drewN (n + m)) := pw_below_drewN (Below.refl _ _) (n + m)
  have HL3 := Aside0.mk (blocks_calls (w2.drewN (n + m)) _ saidA (.inr ⟨b, rfl, HT.out.below hb3⟩))
  have HB3 := Aside0.mk (HB2.out.trans (hb3.mono (by exact HB2.out.size)))
  clear hb3
  go_wp2_with fail
  refine HL3.out.mono ?_
  rintro e w4 ⟨hb4, rfl⟩
  have HB4 := Aside0.mk (HB3.out.trans (hb4.mono (by exact HB3.out.size)))
  clear hb4
  rw [awake_two]
  go_wp2
  go_ret
  exact ⟨rfl, HB4.out⟩

theorem build_at (w : World) (g cap : Nat) (A : Option Addr) (l : List S40) (hA : 0 < (l.map tri).length → A = some ⟨g, 0, none⟩) (hrows : RowsI w g 0 (l.map tri)) (hl : l.length ≤ cap) (hl2 : l.length ≤ 9223372036854775807) :
    Calls Try.prog 18 #[.slice A l.length cap] w (OverPost w (l.map tri) (fun _ => 0)) := by
  have h := build_calls w g 0 cap A (l.map tri) hA hrows (by rw [List.length_map]; exact hl) (by rw [List.length_map]; exact hl2)
  rw [List.length_map] at h
  exact h

theorem results_tmp4 {fn : Func} {t u v x : Tmp} (h : fn.results = #[.tmp t, .tmp u, .tmp v, .tmp x]) (tmps : Array Value) (P : Program) (w : World) :
    (results fn tmps).run P w = .ok (.tuple #[tmps.getD t undef, tmps.getD u undef, tmps.getD v undef, tmps.getD x undef]) w := by
  simp [results, h]

def BuiltPost (w : World) (l : List S40) (e : Ending) (w' : World) : Prop :=
  Below w.heap.size w w' ∧ ∃ (v : Option Addr) (vr : Value), e = .returned (.tuple #[.pointer v, vr, .bool (decide ((checkR (l.map tri)).2 = 0)), .bool true]) ∧ Kd.R k30 30 w' w.heap.size (fun _ => True) vr (l.map ofV) ∧
    ((checkR (l.map tri)).2 = 0 → ∃ b, v = some ⟨b, 0, none⟩ ∧ TabSays w' b (overSay (natR (l.map tri)) (fun _ => 0))) ∧ ((checkR (l.map tri)).2 ≠ 0 → v = none)

set_option maxRecDepth 100000 in
set_option maxHeartbeats 1600000 in
theorem built_calls (w : World) (A0 : Option Addr) (c0 : Nat) (l : List S40) (hC : Kd.C k40 w A0 l.length l) (hc0 : l.length ≤ c0) (hf : Fits l) (hl : l.length ≤ 1048576) :
    Calls Try.prog 14 #[.slice A0 l.length c0] w (BuiltPost w l) := by
  have HC0 := Aside0.mk hC
  have HF := Aside0.mk hf
  have infoV' := infoV
  clear hC hf
  go_enter Try.func14, Try.ntmps14
  go_wp2_with (first | ((with_reducible refine gate_dst (N := 13) rfl ?_); refine Kd.R_lit k40 _ 40 ?hg (N := 13) ?hd (xs := ([] : List S40)) (inner := []) (ok := fun _ => True) (okp := fun _ => True) ?hr ?hp (fun _ hk => hk) trivial (Below.refl _ _) (Nat.le_refl _) (by simp) ?_; (case hd => rfl); (case hg => rfl); (case hr => first | (go_simp; done) | (go_simp; rfl)); (case hp => exact (Reps.none _ _)); intro v1 w1 ho1 hb1 hg1 hn1; clear hg1 hn1; have HO1 := Aside0.mk ho1; have HB1 := Aside0.mk hb1; clear ho1 hb1) | ((with_reducible refine gate_builtin (b := .append) (xs := #[.tmp 13, .tmp 14]) rfl ?_); at_builtin; refine Kd.R_append_rows k40 (w0 := w) w.heap.size rfl (.tmp 13) (.tmp 14) 22 40 (.agg #[.int .i32 0, .int .i32 0, .int .i64 0]) 16 rfl Try.underlying22 infoV' rfl (by decide) (by omega) v1 [] l _ _ _ (fun _ => True) (fun _ => False) rfl rfl HO1.out (Kd.C_below HC0.out HB1.out) (fun _ _ h => h) (fun _ h => h.elim) (fun _ _ => trivial) HB1.out HB1.out.size (by simp only [List.length_nil]; omega) ?_; intro v2 w2 ho2 hb2 hg2 hat2; clear hg2 hat2; rw [List.nil_append] at ho2; obtain ⟨A2, c2, g2, rfl, hl2, hm2, hA2, hR2, hC2⟩ := rowsI_of_R ho2; have HB2 := Aside0.mk hb2; have HC2 := Aside0.mk hC2; have HL2 := Aside0.mk hl2; have HBu := Aside0.mk (build_at w2 g2 c2 A2 l hA2 hR2 hl2 hm2); clear ho2 hb2 hA2 hR2 hC2 HO1 hl2 hm2))
  refine HBu.out.mono ?_
  rintro e w3 ⟨hb3, hcase⟩
  have HB3 := Aside0.mk (HB2.out.trans (hb3.mono HB2.out.size))
  have HC3 := Aside0.mk (Kd.C_below HC2.out hb3)
  have hp0 := plain_f HF.out hl
  have hch0 := check_f l
  have hrf0 := rows_f HF.out (by omega)
  generalize hq : l.map ofV = q at hp0 hch0 hrf0
  have HQ := Aside0.mk hq
  have HP := Aside0.mk (posternlaw08_plain.calls (l.length + 1) A0 c0 l q w3 (Kd.C_below HC0.out HB3.out) hc0 hp0)
  have HCH := Aside0.mk hch0
  have HRF := Aside0.mk hrf0
  clear hp0 hch0 hrf0 hq
  generalize hr : checkR (l.map tri) = r at hcase HCH
  obtain ⟨r1, r2⟩ := r
  have HRR := Aside0.mk hr
  clear hr hb3 HBu HB1 HB2
  rcases hcase with ⟨hne, rfl⟩ | ⟨he, b, rfl, ht⟩
  · simp only at hne
    have hq0 : (r2 == (0 : Int)) = false := by simpa using hne
    have hq1 : (r2 != (0 : Int)) = true := by simpa using hne
    go_wp2_with fail
    refine HP.out.mono ?_
    rintro e w4 ⟨vr, rfl, hR4, hb4⟩
    obtain ⟨A4, c4, rfl, hl4, hC4⟩ := Kd.R_reads hR4
    have HB4 := Aside0.mk (HB3.out.trans (hb4.mono HB3.out.size))
    have HR4 := Aside0.mk hR4
    have HC4 := Aside0.mk hC4
    have HK := Aside0.mk (posternref08_Check.calls (2 * l.length + 1) A4 c4 q _ _ w4 hC4 hl4 HCH.out)
    have HC5 := Aside0.mk (Kd.C_below HC3.out hb4)
    have HL4 := Aside0.mk hl4
    clear hR4 hC4 hb4 hl4 HP
    go_wp2_with fail
    refine HK.out.mono ?_
    rintro e w5 ⟨rfl, hb5⟩
    have HB5 := Aside0.mk (HB4.out.trans (hb5.mono HB4.out.size))
    have HR5 := Aside0.mk (Kd.R_below (Kd.R_lower HR4.out HB3.out.size) hb5)
    have HW := Aside0.mk (posternlaw08_rows.calls (l.length + 1) A2 c2 l A4 c4 q true w5 (Kd.C_below HC5.out hb5) HL2.out (Kd.C_below HC4.out hb5) HL4.out HRF.out)
    clear hb5 HK
    go_wp2_with fail
    refine HW.out.mono ?_
    rintro e w6 ⟨rfl, hb6⟩
    have HFIN := Aside0.mk (show BuiltPost w l (.returned (.tuple #[.pointer none, .slice A4 q.length c4, .bool false, .bool true])) w6 from
      ⟨HB5.out.trans (hb6.below.mono HB5.out.size), none, _, by rw [HRR.out, decide_eq_false hne], by rw [HQ.out]; exact Kd.R_below HR5.out hb6.below, fun h => absurd (by rw [HRR.out] at h; exact h) hne, fun _ => rfl⟩)
    clear hb6
    go_wp2
    (try simp only [Exit.inBlock, Exit.then])
    refine bodyPost_ret (results_tmp4 rfl _ _ _) rfl ?_
    exact HFIN.out
  · have hok := checkR_ok (l := l.map tri) (by rw [HRR.out]; exact he)
    have e0 := HRR.out.symm.trans hok.1
    simp only [Prod.mk.injEq] at e0
    obtain ⟨rfl, rfl⟩ := e0
    have HT := Aside0.mk ht
    clear hok ht he
    go_wp2_with fail
    refine HP.out.mono ?_
    rintro e w4 ⟨vr, rfl, hR4, hb4⟩
    obtain ⟨A4, c4, rfl, hl4, hC4⟩ := Kd.R_reads hR4
    have HB4 := Aside0.mk (HB3.out.trans (hb4.mono HB3.out.size))
    have HR4 := Aside0.mk hR4
    have HC4 := Aside0.mk hC4
    have HK := Aside0.mk (posternref08_Check.calls (2 * l.length + 1) A4 c4 q _ _ w4 hC4 hl4 HCH.out)
    have HC5 := Aside0.mk (Kd.C_below HC3.out hb4)
    have HT4 := Aside0.mk (HT.out.below hb4)
    have HL4 := Aside0.mk hl4
    clear hR4 hC4 hb4 hl4 HP
    go_wp2_with fail
    refine HK.out.mono ?_
    rintro e w5 ⟨rfl, hb5⟩
    have HB5 := Aside0.mk (HB4.out.trans (hb5.mono HB4.out.size))
    have HT5 := Aside0.mk (HT4.out.below hb5)
    have HR5 := Aside0.mk (Kd.R_below (Kd.R_lower HR4.out HB3.out.size) hb5)
    have HW := Aside0.mk (posternlaw08_rows.calls (l.length + 1) A2 c2 l A4 c4 q true w5 (Kd.C_below HC5.out hb5) HL2.out (Kd.C_below HC4.out hb5) HL4.out HRF.out)
    clear hb5 HK
    go_wp2_with fail
    refine HW.out.mono ?_
    rintro e w6 ⟨rfl, hb6⟩
    have HFIN := Aside0.mk (show BuiltPost w l (.returned (.tuple #[.pointer (some ⟨b, 0, none⟩), .slice A4 q.length c4, .bool true, .bool true])) w6 from
      ⟨HB5.out.trans (hb6.below.mono HB5.out.size), some ⟨b, 0, none⟩, _, by rw [HRR.out]; rfl, by rw [HQ.out]; exact Kd.R_below HR5.out hb6.below, fun h => ⟨b, rfl, HT5.out.below hb6.below⟩, fun h => absurd (by rw [HRR.out]) h⟩)
    clear hb6
    go_wp2
    (try simp only [Exit.inBlock, Exit.then])
    refine bodyPost_ret (results_tmp4 rfl _ _ _) rfl ?_
    exact HFIN.out

end Go.Proofs.Ytajmbafljncjcaa.PStageOver
