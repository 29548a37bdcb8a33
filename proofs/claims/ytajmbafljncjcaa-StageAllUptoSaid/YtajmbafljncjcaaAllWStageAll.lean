/- StageAll: the law's walk. -/
import Derived.Test.YtajmbafljncjcaaAwakeStageAll
namespace Go.Proofs.Ytajmbafljncjcaa.PStageAll
open Go.RowKit Go.Proofs.YtajmbafljncjcaaW.PrintWords Go.Proofs.YtajmbafljncjcaaW.PrintLast Go.Proofs.YtajmbafljncjcaaW.PrintMore Go.Proofs.Ytajmbafljncjcaa.Stage Go.Proofs.Ytajmbafljncjcaa.Mp
attribute [local go_sem] max2_nat min2_nat max_two min_two
set_option linter.unusedVariables false
set_option linter.unusedSimpArgs false

/-- A row of the document's answer at a place. -/
theorem at_N {w : World} {A : Option Addr} {n : Nat} {q : List (Nat × Nat × Nat)} (h : Kd.C k30 w A n (q.map toS)) (i : Nat) (hi : i < q.length) :
    ∃ ad, A = some ad ∧ w.cell? (ad.add (i * 3)) = some (.int .i64 ((q.getD i z3).1 : Nat)) ∧ w.cell? ⟨(ad.add (i * 3)).block, (ad.add (i * 3)).off + 1, none⟩ = some (.int .i64 ((q.getD i z3).2.1 : Nat)) ∧
      w.cell? ⟨(ad.add (i * 3)).block, (ad.add (i * 3)).off + 2, none⟩ = some (.int .i64 ((q.getD i z3).2.2 : Nat)) := by
  have hn := Kd.C_len h
  obtain ⟨ad, e1, k0, k1, k2⟩ := at_T30 h (i : Int) (by omega) (by rw [List.length_map] at hn; omega)
  rw [rd_map q i hi] at k0 k1 k2
  exact ⟨ad, e1, k0, k1, k2⟩

theorem look_quiet (w : World) (v : Option Addr) (say : Nat → Nat) (hh : Han w v say) (p : Int) : Calls Try.prog 17 #[.pointer v, .int .i32 p] w fun e w' => e = .returned (.int .i64 (lookI say p)) ∧ ∃ n, w' = w.drewN n := look_calls w v say hh p

theorem firstP_ok (plane : Int) : ∃ f : Nat, 65536 * (plane.tmod 17 % 17) = (f : Int) ∧ f ≤ 1048576 := by
  have h1 : -17 < plane.tmod 17 := Int.lt_tmod_of_pos plane (by decide)
  have h2 : plane.tmod 17 < 17 := Int.tmod_lt_of_pos plane (by decide)
  exact ⟨(65536 * (plane.tmod 17 % 17)).toNat, by omega, by omega⟩

theorem lookI_at {say : Nat → Nat} {p n : Nat} (hp : p ≤ 1114111) (h : say p = n) : lookI say (p : Int) = (n : Int) := by
  unfold lookI
  rw [if_pos (by omega), Int.toNat_natCast, h]

theorem look_says (w : World) (v : Option Addr) (say : Nat → Nat) (hh : Han w v say) (p n : Nat) (h : lookI say (p : Int) = (n : Int)) : Calls Try.prog 17 #[.pointer v, .int .i32 (p : Int)] w fun e w' => e = .returned (.int .i64 (n : Int)) ∧ ∃ n, w' = w.drewN n := by
  have := look_quiet w v say hh p
  rw [h] at this
  exact this

set_option maxRecDepth 100000 in
set_option maxHeartbeats 1600000 in
theorem all_calls (w : World) (A0 : Option Addr) (c0 : Nat) (l : List S40) (hC : Kd.C k40 w A0 l.length l) (hc0 : l.length ≤ c0) (hf : Fits l) (hl : l.length ≤ 1048576) (plane : Int) :
    Calls Try.prog 3 #[.slice A0 l.length c0, .int .i64 plane] w (Yes w) := by
  have HBu := Aside0.mk (built_calls w A0 c0 l hC hc0 hf hl)
  clear hC hf
  go_enter Try.func3, Try.ntmps3
  go_wp2_with fail
  refine HBu.out.mono ?_
  rintro e w1 ⟨hb1, v, vr, rfl, hR, hyes, hno⟩
  obtain ⟨A4, c4, rfl, hl4, hC4⟩ := Kd.R_reads hR
  have HB1 := Aside0.mk hb1
  have HA := Aside0.mk (awake_calls w1)
  by_cases he : (checkR (l.map tri)).2 = 0
  · obtain ⟨b, rfl, ht⟩ := hyes he
    obtain ⟨_, hlen, hrise, hpos⟩ := checkR_ok he
    rw [natR_tri hpos] at hC4 hl4 ⊢
    have hnl : (natR (l.map tri)).length ≤ 65536 := by rw [natR_len]; exact hlen
    generalize natR (l.map tri) = q at ht hrise hC4 hnl hl4
    have hrun := fun (w2 : World) (hC : Kd.C k30 w2 A4 (q.map toS).length (q.map toS)) (hc : (q.map toS).length ≤ c4) => posternref08_Runs.calls (q.length + 1) A4 c4 (q.map toS) _ w2 hC hc (runs_f (by omega) hrise)
    have htil := runsN_ok hrise
    generalize runsN [] 0 q = rs at hrun htil
    rw [List.length_map] at hC4 hl4 ⊢
    simp only [List.length_map] at hrun
    rw [decide_eq_true he]
    have HT := Aside0.mk ht
    clear hyes hno hb1 hR ht hpos he
    go_wp2_with fail
    refine HA.out.mono ?_
    rintro e w2 ⟨rfl, hb2⟩
    have HB2 := Aside0.mk (HB1.out.trans (hb2.mono HB1.out.size))
    obtain ⟨f, hp0, hp1⟩ := firstP_ok plane
    have h1 : -17 < plane.tmod 17 := Int.lt_tmod_of_pos plane (by decide)
    have h2 : plane.tmod 17 < 17 := Int.tmod_lt_of_pos plane (by decide)
    have HRu := Aside0.mk (hrun w2 (Kd.C_below hC4 hb2) hl4)
    clear hrun hC4 hl4
    go_wp2_with fail
    refine HRu.out.mono ?_
    rintro e w3 ⟨vq, rfl, hR3, hb3⟩
    obtain ⟨A5, c5, rfl, hl5, hC5⟩ := Kd.R_reads hR3
    have HB3 := Aside0.mk (HB2.out.trans (hb3.mono HB2.out.size))
    have HT3 := Aside0.mk ((HT.out.below hb2).below hb3)
    rw [List.length_map] at hl5 hC5 ⊢
    have HC5 := Aside0.mk hC5
    have HTIL := Aside0.mk htil
    have hrl : rs.length ≤ 1114112 := by have := htil.length; omega
    clear hR3 hb3 hb2 hC5 htil hp0 h1 h2 HBu HA HRu HB1 HB2 HT hrise
    go_wp2
    go_loopg [36] (rs.length + 1) (fun k v36 wr => ∃ i : Nat, i ≤ rs.length ∧ rs.length + 1 - i ≤ k ∧ v36 = .int .i64 (i : Int) ∧ Aside0 (Below w3.heap.size w3 wr))
    case atStart => exact ⟨0, by omega, by omega, rfl, ⟨Below.refl _ _⟩⟩
    case round =>
      obtain ⟨i, hi, hq, rfl, hB⟩ := hrel
      obtain ⟨gko, rfl⟩ : ∃ n, n = gk := ⟨_, rfl⟩
      by_cases hlt : i < rs.length
      · have hlt' : (i : Int) < (rs.length : Int) := by omega
        obtain ⟨ad, rfl, k0, k1, k2⟩ := at_N (Kd.C_below HC5.out hB.out) i hlt
        have hmem : rs.getD i z3 ∈ rs := by
          rw [List.getD_eq_getElem?_getD, List.getElem?_eq_getElem hlt]; exact List.getElem_mem hlt
        obtain ⟨_, hm1, hm2, hm3⟩ := HTIL.out.mem _ hmem
        have hm3' := fun p ha hb => (lookI_at (say := overSay q (fun _ => 0)) (p := p) (n := (rs.getD i z3).2.2) (by omega) (hm3 p ha hb))
        rcases hrd : rs.getD i z3 with ⟨a, bb, n⟩
        rw [hrd] at k0 k1 k2 hm1 hm2 hm3'
        simp only at k0 k1 k2 hm1 hm2 hm3'
        have HL := Aside0.mk hm3'
        clear hm3 hm3' hrd hmem
        obtain ⟨f2, hf2⟩ : ∃ f2 : Nat, (f : Int) + 65535 = (f2 : Int) := ⟨f + 65535, by omega⟩
        go_wp2
        have hmxa : a ≤ max a f := Nat.le_max_left _ _
        have hmxb : max a f ≤ 2228224 := by omega
        have hmnb : min bb f2 ≤ bb := Nat.min_le_left _ _
        generalize max a f = mx at hmxa hmxb
        obtain ⟨wo, rfl⟩ : ∃ x, x = wr := ⟨_, rfl⟩
        have HB4 := Aside0.mk (hB.out.alloc hB.out.size (.cells #[.int .i64 (a : Int), .int .i64 (bb : Int), .int .i64 (n : Int)] 30))
        have HQ := Aside0.mk (fun (W : World) (hW : Below w3.heap.size w3 W) (p : Nat) (ha : a ≤ p) (hb : p ≤ bb) => look_says W (some ⟨b, 0, none⟩) _ (.inr ⟨b, rfl, HT3.out.below hW⟩) p n (HL.out p ha hb))
        clear HL HTIL HC5 hB
        go_loopg [12] (min bb f2 + 1) (fun k v12 wr2 => ∃ p : Nat, mx ≤ p ∧ p ≤ 2228224 ∧ min bb f2 + 1 - p ≤ k ∧ v12 = .int .i64 (p : Int) ∧ ∃ m, wr2 = (wo.alloc (.cells #[.int .i64 (a : Int), .int .i64 (bb : Int), .int .i64 (n : Int)] 30)).drewN m)
        case atStart => exact ⟨mx, by omega, by omega, by omega, rfl, 0, rfl⟩
        case round =>
          obtain ⟨p, hpa, hpb, hpk, rfl, m, rfl⟩ := hrel
          by_cases hle : p ≤ min bb f2
          · have hle' : (p : Int) ≤ ((min bb f2 : Nat) : Int) := by omega
            have hw : IntKind.i32.wrap (p : Int) = (p : Int) := IntWalk.i32_in _ (by omega)
            have hpbb : p ≤ bb := by omega
            go_wp2
            go_quiet (first | (go_at_call 17; refine (HQ.out _ (pw_below_drewN HB4.out _) p (by omega) hpbb).mono ?_; rintro e w'' ⟨rfl, kk, rfl⟩; exact ⟨rfl, _, by rw [World.drewN_drewN, Nat.add_assoc]⟩))
            go_wp2
            go_roundg (gk - 1)
            case measure => omega
            case rel => exact ⟨p + 1, by omega, by omega, by omega, by go_num, _, rfl⟩
          · have hle' : ¬ (p : Int) ≤ ((min bb f2 : Nat) : Int) := by omega
            go_wp2
            go_roundg (gko - 1)
            case measure => omega
            case rel => exact ⟨i + 1, by omega, by omega, by go_num, ⟨pw_below_drewN HB4.out _⟩⟩
      · have hlt' : ¬ (i : Int) < (rs.length : Int) := by omega
        have HT4 := Aside0.mk (HT3.out.below hB.out)
        have HB4 := Aside0.mk (HB3.out.trans (hB.out.mono HB3.out.size))
        have HL1 := Aside0.mk (look_calls wr (some ⟨b, 0, none⟩) _ (.inr ⟨b, rfl, HT4.out⟩) (-1))
        have HL2 := Aside0.mk (fun n => look_calls (wr.drewN n) (some ⟨b, 0, none⟩) _ (.inr ⟨b, rfl, HT4.out.below (pw_below_drewN (Below.refl _ _) n)⟩) 1114112)
        clear HTIL HC5 hB
        go_wp2_with fail
        refine HL1.out.mono ?_
        rintro e w5 ⟨rfl, n, rfl⟩
        rw [show lookI (overSay q fun _ => 0) (-1) = 0 from if_neg (by omega)]
        have HL3 := Aside0.mk (HL2.out n)
        go_wp2_with fail
        refine HL3.out.mono ?_
        rintro e w5 ⟨rfl, m, rfl⟩
        rw [show lookI (overSay q fun _ => 0) 1114112 = 0 from if_neg (by omega)]
        go_wp2
        go_ret
        exact ⟨rfl, pw_below_drewN HB4.out _⟩
  · obtain rfl := hno he
    rw [decide_eq_false he]
    clear hyes hno hb1 hR hC4 hl4
    go_wp2_with fail
    refine HA.out.mono ?_
    rintro e w2 ⟨rfl, hb2⟩
    have HB2 := Aside0.mk (HB1.out.trans (hb2.mono HB1.out.size))
    go_wp2
    go_ret
    exact ⟨rfl, HB2.out⟩

end Go.Proofs.Ytajmbafljncjcaa.PStageAll
