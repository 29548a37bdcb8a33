/- StageSums: the law's walk. -/
import Derived.Test.YtajmbafljncjcaaSumPStageOver
import Derived.Test.YtajmbafljncjcaaLTwoStageOver
import Derived.Test.YtajmbafljncjcaaPackA
import Derived.Test.YtajmbafljncjcaaSame
namespace Go.Proofs.Ytajmbafljncjcaa.PStageOver
open Go.RowKit Go.Proofs.YtajmbafljncjcaaW.PrintWords Go.Proofs.YtajmbafljncjcaaW.PrintLast Go.Proofs.YtajmbafljncjcaaW.PrintMore Go.Proofs.Ytajmbafljncjcaa.Stage Go.Proofs.Ytajmbafljncjcaa.Mp
set_option linter.unusedVariables false
set_option linter.unusedSimpArgs false

theorem rd_rowP (q : List (Nat × Nat)) (i : Nat) (h : i < q.length) : rd_T30 (q.map rowP) (i : Int) = rowP (q.getD i (0, 0)) := by
  simp [rd_T30, List.getD_eq_getElem?_getD, List.getElem?_map, List.getElem?_eq_getElem h]
theorem rd_toD (D : List (Nat × Nat × Nat)) (i : Nat) (h : i < D.length) : rd_T47 (D.map toD) (i : Int) = toD (D.getD i (0, 0, 0)) := by
  simp [rd_T47, List.getD_eq_getElem?_getD, List.getElem?_map, List.getElem?_eq_getElem h]
theorem spI_D {w : World} {A : Option Addr} {n : Nat} {D : List (Nat × Nat × Nat)} (h : Kd.C k47 w A n (D.map toD)) : SpI w A (spD D) := fun i hi => by
  have hn := Kd.C_len h
  rw [List.length_map] at hn
  have hi' : i < D.length := by simpa [spD] using hi
  obtain ⟨ad, e, k0, k1⟩ := at_T47 h (i : Int) (by omega) (by omega)
  rw [rd_toD D i hi'] at k0 k1
  rw [spD_at D i hi']
  exact ⟨ad, e, k0, k1⟩
theorem sameB_self (s : Nat → Nat) : sameB s s = true := (sameB_iff s s).2 (fun _ _ => rfl)
theorem tabSays_congrW {w : World} {b : Nat} {s1 s2 : Nat → Nat} (h : TabSays w b s1) (he : ∀ p, p < 1114112 → s2 p = s1 p) : TabSays w b s2 := by
  obtain ⟨g, c, g', c', h⟩ := h
  exact ⟨g, c, g', c', by rw [tabSay_congr he]; exact h⟩

set_option maxRecDepth 100000 in
set_option maxHeartbeats 3200000 in
theorem sumsw_calls (w : World) (A0 : Option Addr) (c0 : Nat) (l : List S40) (hC : Kd.C k40 w A0 l.length l) (hc0 : l.length ≤ c0) (hf : Fits l) (hl : l.length ≤ 1048576)
    (B0 : Option Addr) (d0 : Nat) (m : List S40) (hD : Kd.C k40 w B0 m.length m) (hd0 : m.length ≤ d0) (hmf : Fits m) (hm : m.length ≤ 1048576) :
    Calls Try.prog 12 #[.slice A0 l.length c0, .slice B0 m.length d0] w (Yes w) := by
  have HTW := Aside0.mk (ltwo_calls w A0 c0 l hC hc0 hf hl B0 d0 m hD hd0 hmf hm)
  clear hC hf hD hmf
  go_enter Try.func12, Try.ntmps12
  go_wp2_with fail
  refine HTW.out.mono ?_
  rintro e w1 ⟨hb1, va, vb, qa, qb, Aa, Ab, na, ca, nb, cb, rfl, hTa, hTb⟩
  have HB1 := Aside0.mk hb1
  have HTA := Aside0.mk hTa
  have HTB := Aside0.mk hTb
  have HA := Aside0.mk (awake_calls w1)
  clear hb1 hTa hTb HTW
  go_wp2_with fail
  refine HA.out.mono ?_
  rintro e w2 ⟨rfl, hb2⟩
  have HB2 := Aside0.mk (HB1.out.trans (hb2.mono HB1.out.size))
  have HNA := Aside0.mk (HTA.out.below hb2).han
  have HNB := Aside0.mk (HTB.out.below hb2).han
  have HLA := Aside0.mk (fun (p : Nat) (_ : p < 1114112) => sayQ_le HTA.out.rise p)
  have HLB := Aside0.mk (fun (p : Nat) (_ : p < 1114112) => sayQ_le HTB.out.rise p)
  clear hb2 HB1 HTA HTB HA
  generalize sayQ qa = sa at *
  generalize sayQ qb = sb at *
  have HPR := Aside0.mk (pairs_calls w2 va vb sa sb HNA.out HNB.out HLA.out HLB.out)
  go_wp2_with fail
  refine HPR.out.mono ?_
  rintro e w3 ⟨hb3, A3, c3, rs, l0, rfl, htil, hperm, _, hC3⟩
  obtain ⟨q, hq, rfl⟩ := rows_un hperm
  have hall : sumK (fun _ => true) q = 1114112 := by rw [sumK_perm _ hq, sums_all htil]
  have hsame : sumK sameQ q = cntQ (fun p => decide (sa p = sb p)) 0 1114112 := by rw [sumK_perm _ hq, sums_same HLA.out HLB.out htil]
  have hql : q.length ≤ 1114112 := by
    rw [hq.length_eq]
    have e1 := cntL_len rs []
    have e2 := htil.length
    unfold cntL
    simp only [List.length_nil] at e1
    omega
  have HB3 := Aside0.mk (HB2.out.trans (hb3.mono HB2.out.size))
  have HNA3 := Aside0.mk (HNA.out.below hb3)
  have HNB3 := Aside0.mk (HNB.out.below hb3)
  have HC3 := Aside0.mk hC3
  have HALL := Aside0.mk hall
  have HSAME := Aside0.mk hsame
  rw [List.length_map] at hC3 ⊢
  clear hb3 htil hperm hC3 hq HPR HB2 HNA HNB hall hsame
  go_wp2
  go_loopg [10, 11, 42] (q.length + 1) (fun k v10 v11 v42 wr => ∃ i : Nat, i ≤ q.length ∧ q.length + 1 - i ≤ k ∧ v42 = .int .i64 (i : Int) ∧ v10 = .int .i64 ((sumK (fun _ => true) (q.take i) : Nat) : Int) ∧ v11 = .int .i64 ((sumK sameQ (q.take i) : Nat) : Int) ∧ Aside0 (Below w3.heap.size w3 wr))
  case atStart => exact ⟨0, by omega, by omega, rfl, rfl, rfl, ⟨Below.refl _ _⟩⟩
  case round =>
    obtain ⟨i, hi, hk, rfl, rfl, rfl, hB⟩ := hrel
    by_cases hlt : i < q.length
    · have hlt' : (i : Int) < (q.length : Int) := by omega
      obtain ⟨ad, rfl, k0, k1, k2⟩ := at_T30 (Kd.C_below HC3.out hB.out) (i : Int) (by omega) (by rw [List.length_map]; omega)
      rw [rd_rowP q i hlt] at k0 k1 k2
      have ht1 := sumK_take (fun _ => true) q i hlt
      have ht2 := sumK_take sameQ q i hlt
      have hb1 := sumK_le (fun _ => true) q (i + 1)
      have hb2 : sumK sameQ (q.take (i + 1)) ≤ 1114112 := by
        have h1 := sumK_le sameQ q (i + 1)
        rw [HSAME.out] at h1
        have h2 := cntQ_not (fun p => decide (sa p = sb p)) 1114112 0
        omega
      rw [HALL.out] at hb1
      have HB4 := hB
      generalize q.getD i (0, 0) = x at k0 k1 k2 ht1 ht2
      obtain ⟨n, c⟩ := x
      replace k0 : _ = some (Value.int .i64 ((n / 65536 : Nat) : Int)) := k0
      replace k1 : _ = some (Value.int .i64 ((n % 65536 : Nat) : Int)) := k1
      replace k2 : _ = some (Value.int .i64 ((c : Nat) : Int)) := k2
      simp only [if_true] at ht1
      rw [Int.toNat_natCast] at k0 k1 k2
      generalize hh : n / 65536 = nh at *
      generalize hh2 : n % 65536 = nl at *
      have hS : sameQ n = (nh == nl) := by unfold sameQ; rw [hh, hh2]
      rw [hS] at ht2
      generalize sumK (fun _ => true) (q.take i) = s1 at *
      generalize sumK sameQ (q.take i) = s2 at *
      have HT1 := Aside0.mk ht1
      have HT2 := Aside0.mk ht2
      have HB5 := Aside0.mk (below_alloc HB4.out (.cells #[.int .i64 (nh : Int), .int .i64 (nl : Int), .int .i64 (c : Int)] 81))
      rw [ht1] at hb1
      by_cases he : nh = nl
      · have he' : (nh : Int) = (nl : Int) := by omega
        rw [he, beq_self_eq_true, if_pos rfl] at ht2
        rw [ht2] at hb2
        have HT2' := Aside0.mk ht2
        clear ht1 ht2 hh hh2 hS hB HT2
        go_wp2
        go_roundg (gk - 1)
        case measure => omega
        case rel => exact ⟨i + 1, by omega, by omega, by go_num, by rw [HT1.out, Int.natCast_add], by rw [HT2'.out, Int.natCast_add], ⟨below_alloc HB4.out _⟩⟩
      · have he' : ¬ (nh : Int) = (nl : Int) := by omega
        rw [beq_false_of_ne he, if_neg (by decide), Nat.add_zero] at ht2
        have HT2' := Aside0.mk ht2
        clear ht1 ht2 hh hh2 hS hB HT2
        go_wp2
        go_roundg (gk - 1)
        case measure => omega
        case rel => exact ⟨i + 1, by omega, by omega, by go_num, by rw [HT1.out, Int.natCast_add], by rw [HT2'.out]; rfl, ⟨below_alloc HB4.out _⟩⟩
    · have hlt' : ¬ (i : Int) < (q.length : Int) := by omega
      obtain rfl : i = q.length := by omega
      rw [List.take_of_length_le (Nat.le_refl _), HALL.out, HSAME.out]
      generalize hsm : cntQ (fun p => decide (sa p = sb p)) 0 1114112 = same at *
      have HSM := Aside0.mk hsm
      obtain ⟨w4, rfl⟩ : ∃ x, x = wr := ⟨_, rfl⟩
      have HB4 := Aside0.mk (HB3.out.trans (hB.out.mono HB3.out.size))
      have HNA4 := Aside0.mk (HNA3.out.below hB.out)
      have HNB4 := Aside0.mk (HNB3.out.below hB.out)
      have HDI := Aside0.mk (differ_calls w4 va vb sa sb HNA4.out HNB4.out)
      clear hB HC3 HALL HSAME HB3 HNA3 HNB3 hsm hlt'
      go_wp2_with fail
      refine HDI.out.mono ?_
      rintro e w5 ⟨hb5, vS, rs2, rfl, htil, hR5⟩
      obtain ⟨A5, c5, rfl, hc5, hC5⟩ := Kd.R_reads hR5
      have hmany := sums_many htil
      rw [HSM.out] at hmany
      have HTIL := Aside0.mk htil
      have hDl : (ofD rs2).length ≤ 1114112 := by have := ofD_len rs2; have := htil.length; omega
      have HZERO := Aside0.mk (many_zero htil)
      have HMEM := Aside0.mk (fun x hx => ofD_mem htil (x := x) hx)
      have HSET := Aside0.mk (show setFrom 0 (spD (ofD rs2)) = true from (spD_set (fun p => by unfold difSay; split <;> omega) htil).2)
      have HWBA := Aside0.mk (fun hs => where_ba htil hs)
      have HWAB := Aside0.mk (fun hs => where_ab htil hs)
      have HB5 := Aside0.mk (HB4.out.trans (hb5.mono HB4.out.size))
      have HNA5 := Aside0.mk (HNA4.out.below hb5)
      have HNB5 := Aside0.mk (HNB4.out.below hb5)
      generalize ofD rs2 = D at *
      have HC5 := Aside0.mk hC5
      rw [List.length_map]
      clear hb5 hc5 hC5 hR5 htil HDI HB4 HNA4 HNB4
      go_wp2
      go_loopg [15, 65] (D.length + 1) (fun k v15 v65 wr => ∃ i : Nat, i ≤ D.length ∧ D.length + 1 - i ≤ k ∧ v65 = .int .i64 (i : Int) ∧ v15 = .int .i64 ((manyD (D.take i) : Nat) : Int) ∧ Aside0 (Below w5.heap.size w5 wr))
      case atStart => exact ⟨0, by omega, by omega, rfl, rfl, ⟨Below.refl _ _⟩⟩
      case round =>
        obtain ⟨i, hi, hk, rfl, rfl, hB⟩ := hrel
        by_cases hlt : i < D.length
        · have hlt' : (i : Int) < (D.length : Int) := by omega
          obtain ⟨ad, rfl, k0, k1⟩ := at_T47 (Kd.C_below HC5.out hB.out) (i : Int) (by omega) (by rw [List.length_map]; omega)
          rw [rd_toD D i hlt, Int.toNat_natCast] at k0 k1
          have hx := HMEM.out (D.getD i (0, 0, 0)) (by rw [List.getD_eq_getElem?_getD, List.getElem?_eq_getElem hlt]; exact List.getElem_mem hlt)
          have hmt := manyD_take D i hlt
          have hml := manyD_le D (i + 1)
          generalize D.getD i (0, 0, 0) = x at k0 k1 hx hmt
          obtain ⟨f, t, z⟩ := x
          replace k0 : _ = some (Value.int .i32 (f : Int)) := k0
          replace k1 : _ = some (Value.int .i32 (t : Int)) := k1
          simp only at hx hmt
          obtain ⟨x1, x2, x3⟩ := hx
          have hn1 := x3 f (Nat.le_refl _) x1
          have hn2 := x3 t x1 (Nat.le_refl _)
          have HMT := Aside0.mk hmt
          rw [hmt] at hml
          generalize manyD (D.take i) = mi at *
          have e1 : IntKind.i32.wrap ((t : Int) - (f : Int)) = ((t - f : Nat) : Int) := by rw [IntWalk.i32_in _ (by omega)]; omega
          have HBX := Aside0.mk (below_alloc hB.out (.cells #[.int .i32 (f : Int), .int .i32 (t : Int)] 47))
          have y0 : (wr.alloc (.cells #[.int .i32 (f : Int), .int .i32 (t : Int)] 47)).cell? ⟨wr.heap.size, 0, none⟩ = some (.int .i32 (f : Int)) := (blk_new wr [.int .i32 (f : Int), .int .i32 (t : Int)] 47).cell 0
          have y1 : (wr.alloc (.cells #[.int .i32 (f : Int), .int .i32 (t : Int)] 47)).cell? ⟨wr.heap.size, 1, none⟩ = some (.int .i32 (t : Int)) := (blk_new wr [.int .i32 (f : Int), .int .i32 (t : Int)] 47).cell 1
          clear hmt hB x3
          go_upto_region 18 with fail
          generalize hW6 : wr.alloc (.cells #[.int .i32 (f : Int), .int .i32 (t : Int)] 47) = w6 at *
          generalize wr.heap.size = gx at *
          have HNA6 := Aside0.mk (HNA5.out.below HBX.out)
          have HNB6 := Aside0.mk (HNB5.out.below HBX.out)
          obtain ⟨n1, hn1a⟩ : ∃ n, sa f = n := ⟨_, rfl⟩
          obtain ⟨n2, hn2a⟩ : ∃ n, sb f = n := ⟨_, rfl⟩
          obtain ⟨n3, hn3a⟩ : ∃ n, sa t = n := ⟨_, rfl⟩
          obtain ⟨n4, hn4a⟩ : ∃ n, sb t = n := ⟨_, rfl⟩
          have L1 := Aside0.mk (look_q w6 va sa HNA6.out f n1 (by omega) hn1a)
          have L2 := Aside0.mk (look_q w6 vb sb HNB6.out f n2 (by omega) hn2a)
          have L3 := Aside0.mk (look_q w6 va sa HNA6.out t n3 (by omega) hn3a)
          have L4 := Aside0.mk (look_q w6 vb sb HNB6.out t n4 (by omega) hn4a)
          rw [hn1a, hn2a] at hn1
          rw [hn3a, hn4a] at hn2
          have d1 : decide ((n1 : Int) = (n2 : Int)) = false := decide_eq_false (by omega)
          have d2 : decide ((n3 : Int) = (n4 : Int)) = false := decide_eq_false (by omega)
          have d3 : ((n1 : Int) == (n2 : Int)) = false := beq_false_of_ne (by omega)
          have d4 : ((n3 : Int) == (n4 : Int)) = false := beq_false_of_ne (by omega)
          clear hW6 hn1a hn2a hn3a hn4a hn1 hn2 HNA6 HNB6
          refine wp_region_quiet_lit (by kernel_rfl) (by kernel_rfl) ?_
          quiet_step (fail)
          quiet_step (fail)
          quiet_step (fail)
          quiet_step (exact Calls.quiet_of (L1.out _ (pw_below_drewN (Below.refl _ _) _)))
          quiet_step (fail)
          quiet_step (fail)
          quiet_step (fail)
          quiet_step (exact Calls.quiet_of (L2.out _ (pw_below_drewN (Below.refl _ _) _)))
          quiet_step (fail)
          quiet_step (fail)
          quiet_step (fail)
          quiet_step (fail)
          quiet_step (fail)
          quiet_step (exact Calls.quiet_of (L3.out _ (pw_below_drewN (Below.refl _ _) _)))
          quiet_step (fail)
          quiet_step (fail)
          quiet_step (fail)
          quiet_step (exact Calls.quiet_of (L4.out _ (pw_below_drewN (Below.refl _ _) _)))
          repeat (quiet_step (fail))
          refine wpQuiet_nil ?_
          rintro _ ⟨nq, rfl⟩
          clear L1 L2 L3 L4
          go_wp2
          go_roundg (gk - 1)
          case measure => omega
          case rel => exact ⟨i + 1, by omega, by omega, by go_num, by rw [HMT.out]; exact congrArg (Value.int .i64) (by omega), ⟨pw_below_drewN HBX.out _⟩⟩
        · have hlt' : ¬ (i : Int) < (D.length : Int) := by omega
          obtain rfl : i = D.length := by omega
          rw [List.take_of_length_le (Nat.le_refl _)]
          obtain ⟨w6, rfl⟩ : ∃ x, x = wr := ⟨_, rfl⟩
          have hlenS : (spD D).length = D.length := List.length_map ..
          have HSP := Aside0.mk (spI_D (Kd.C_below HC5.out hB.out))
          have HSPB := HSP
          have HB6 := Aside0.mk (HB5.out.trans (hB.out.mono HB5.out.size))
          have HNA6 := Aside0.mk (HNA5.out.below hB.out)
          have HNB6 := Aside0.mk (HNB5.out.below hB.out)
          generalize manyD D = many at *
          have e1 : IntKind.i64.wrap (1114112 - (same : Int)) = (many : Int) := by rw [IntWalk.i64_in _ (by omega)]; omega
          have HW := where_calls w6 A5 c5 (spD D) HSP.out (by omega) vb va sb sa HNB6.out HNA6.out HLB.out HLA.out
          rw [hlenS] at HW
          replace HW := Aside0.mk HW
          have hset : isSet (spD D) = (setFrom 0 (spD D) && decide ((spD D).length ≤ 65536)) := rfl
          rw [HSET.out, Bool.true_and, hlenS] at hset
          clear hB HC5 HB5 HNA5 HNB5 HSP
          by_cases hbig : 65536 < D.length
          · have hbig' : (65536 : Int) < (D.length : Int) := by omega
            rw [decide_eq_false (by omega)] at hset
            have HS := Aside0.mk hset
            clear hset HWBA HWAB
            go_wp2_with fail
            refine HW.out.mono ?_
            rintro e w7 ⟨hb7, hcase⟩
            have HB7 := Aside0.mk (HB6.out.trans (hb7.mono HB6.out.size))
            rcases hcase with ⟨_, rfl⟩ | ⟨hyes, _⟩
            · clear hb7 HW
              go_wp2
              go_ret
              exact ⟨rfl, HB7.out⟩
            · rw [HS.out] at hyes
              cases hyes
          · have hbig' : ¬ (65536 : Int) < (D.length : Int) := by omega
            rw [decide_eq_true (by omega)] at hset
            have HS := Aside0.mk hset
            have HSP := Aside0.mk HSPB.out
            go_wp2_with fail
            refine HW.out.mono ?_
            rintro e w7 ⟨hb7, hcase⟩
            rcases hcase with ⟨hno, _⟩ | ⟨_, b1, rfl, hu1⟩
            · rw [HS.out] at hno
              cases hno
            · have HB7 := Aside0.mk (HB6.out.trans (hb7.mono HB6.out.size))
              have hU := tabSays_congrW hu1 (fun p hp => (HWBA.out HS.out p hp).symm)
              have HHT := Aside0.mk (show Han w7 (some ⟨b1, 0, none⟩) sb from .inr ⟨b1, rfl, hU⟩)
              have HNA7 := Aside0.mk (HNA6.out.below hb7)
              have HNB7 := Aside0.mk (HNB6.out.below hb7)
              have HSP7 := Aside0.mk (HSP.out.below hb7)
              have HSM1 := Aside0.mk (same_calls w7 (some ⟨b1, 0, none⟩) vb sb sb HHT.out HNB7.out)
              clear hb7 hu1 hU HW HNA6 HNB6 HB6 HSP HSPB
              go_wp2_with fail
              refine HSM1.out.mono ?_
              rintro e w8 ⟨rfl, hb8⟩
              rw [sameB_self sb]
              have HB8 := Aside0.mk (HB7.out.trans (hb8.mono HB7.out.size))
              have HNA8 := Aside0.mk (HNA7.out.below hb8)
              have HNB8 := Aside0.mk (HNB7.out.below hb8)
              have HSP8 := Aside0.mk (HSP7.out.below hb8)
              have HPK1 := Aside0.mk (pack_calls w8 (some ⟨b1, 0, none⟩) sb (HHT.out.below hb8))
              clear hb8 HSM1 HB7 HNA7 HNB7 HSP7 HHT
              go_wp2_with fail
              refine HPK1.out.mono ?_
              rintro e w9 ⟨hb9, rfl⟩
              have HB9 := Aside0.mk (HB8.out.trans (hb9.mono HB8.out.size))
              have HNA9 := Aside0.mk (HNA8.out.below hb9)
              have HNB9 := Aside0.mk (HNB8.out.below hb9)
              have HSP9 := Aside0.mk (HSP8.out.below hb9)
              have HPK2 := Aside0.mk (pack_calls w9 vb sb HNB9.out)
              clear hb9 HPK1 HB8 HNA8 HNB8 HSP8
              generalize hps : strOfNums (packT (tabSay sb)) = ps
              have HPS := Aside0.mk hps
              clear hps
              go_wp2_with fail
              refine HPK2.out.mono ?_
              rintro e w10 ⟨hb10, he⟩
              rw [HPS.out] at he
              subst he
              have HB10 := Aside0.mk (HB9.out.trans (hb10.mono HB9.out.size))
              have HNA10 := Aside0.mk (HNA9.out.below hb10)
              have HNB10 := Aside0.mk (HNB9.out.below hb10)
              have HSP10 := Aside0.mk (HSP9.out.below hb10)
              have HSM2 := Aside0.mk (same_calls w10 va vb sa sb HNA10.out HNB10.out)
              clear hb10 HPK2 HB9 HNA9 HNB9 HSP9 HPS
              go_wp2_with fail
              refine HSM2.out.mono ?_
              rintro e w11 ⟨rfl, hb11⟩
              have HB11 := Aside0.mk (HB10.out.trans (hb11.mono HB10.out.size))
              have HNA11 := Aside0.mk (HNA10.out.below hb11)
              have HNB11 := Aside0.mk (HNB10.out.below hb11)
              have HSP11 := Aside0.mk (HSP10.out.below hb11)
              have HW3 := where_calls w11 A5 c5 (spD D) HSP11.out (by omega) va vb sa sb HNA11.out HNB11.out HLA.out HLB.out
              rw [hlenS] at HW3
              replace HW3 := Aside0.mk HW3
              rw [HZERO.out]
              clear hb11 HSM2 HB10 HNA10 HNB10 HSP10
              have hz : (many = 0 ∧ decide (many = 0) = true ∧ ((many : Int) == 0) = true) ∨ (many ≠ 0 ∧ decide (many = 0) = false ∧ ((many : Int) == 0) = false) := by
                by_cases h : many = 0
                · exact .inl ⟨h, decide_eq_true h, by rw [h]; rfl⟩
                · exact .inr ⟨h, decide_eq_false h, beq_false_of_ne (by omega)⟩
              rcases hz with ⟨_, z1, z2⟩ | ⟨_, z1, z2⟩
              all_goals
                rw [z1]
                go_wp2_with fail
                refine HW3.out.mono ?_
                rintro e w12 ⟨hb12, hcase⟩
                rcases hcase with ⟨hno, _⟩ | ⟨_, b2, rfl, hu2⟩
                · rw [HS.out] at hno
                  cases hno
                · have HB12 := Aside0.mk (HB11.out.trans (hb12.mono HB11.out.size))
                  have hU2 := tabSays_congrW hu2 (fun p hp => (HWAB.out HS.out p hp).symm)
                  have HSM3 := Aside0.mk (same_calls w12 (some ⟨b2, 0, none⟩) va sa sa (.inr ⟨b2, rfl, hU2⟩) (HNA11.out.below hb12))
                  clear hb12 hu2 hU2 HW3
                  go_wp2_with fail
                  refine HSM3.out.mono ?_
                  rintro e w13 ⟨rfl, hb13⟩
                  have HFIN := Aside0.mk (HB12.out.trans (hb13.mono HB12.out.size))
                  rw [sameB_self sa]
                  clear hb13 HSM3
                  go_wp2
                  go_ret
                  exact ⟨rfl, HFIN.out⟩

end Go.Proofs.Ytajmbafljncjcaa.PStageOver
