/- StageDiffers: the law's walk. -/
import Derived.Test.YtajmbafljncjcaaDifStageOver
import Derived.Test.YtajmbafljncjcaaDifDStageOver
import Derived.Test.YtajmbafljncjcaaBothDStageOver
import Derived.Test.YtajmbafljncjcaaDfsPStageOver
import Derived.Test.YtajmbafljncjcaaRefBStageOver
import Derived.Test.YtajmbafljncjcaaLTwoStageOver
import Derived.ChangeKeysEq
namespace Go.Proofs.Ytajmbafljncjcaa.PStageOver
open Go.RowKit Go.Proofs.YtajmbafljncjcaaW.PrintWords Go.Proofs.YtajmbafljncjcaaW.PrintLast Go.Proofs.YtajmbafljncjcaaW.PrintMore Go.Proofs.Ytajmbafljncjcaa.Stage Go.Proofs.Ytajmbafljncjcaa.Mp
set_option linter.unusedVariables false
set_option linter.unusedSimpArgs false

theorem ofN_one {D : List (Nat × Nat × Nat)} (h : ∀ x ∈ D, x.2.2 = 1) : ofN 1 D = D := by
  unfold ofN
  rw [List.filter_eq_self]
  intro x hx
  rw [h x hx]
  rfl
theorem spans_D {rs : List (Nat × Nat × Nat)} {say : Nat → Nat} (h : Til say 1114112 0 rs) : posternlaw08_spans.f ((ofD rs).length + 1) ((ofD rs).map toD) ((ofD rs).map toS) 1 = some true := by
  have h1 := spans_fb (q := ofD rs) (by have := ofD_len rs; have := h.length; omega) 1 (fun x hx => by
    have := h.mem x (List.mem_filter.1 hx).1
    exact ⟨this.2.1, this.2.2.1⟩)
  rw [ofN_one (fun x hx => by simpa using (List.mem_filter.1 hx).2)] at h1
  exact h1
theorem most_same {rs : List (Nat × Nat × Nat)} {ns : List Nat} (hp : ns.Perm ((cntL rs).map (·.1))) (hs : ns.Pairwise (fun x y => x ≤ y)) : mostF (fun n => manyK n rs) ns = mostF (fun n => manyK n rs) (numsT rs) := by rw [nums_same hp hs]
theorem allE_len {E : List (Nat × Nat × Nat)} {l0 : List S30} {rs : List (Nat × Nat × Nat)} (h : l0 = E.map toS) (hp : l0.Perm ((cntL rs).map rowP)) {say : Nat → Nat} (ht : Til say 1114112 0 rs) : E.length ≤ 1114112 := by
  have h1 := hp.length_eq
  rw [h, List.length_map, List.length_map] at h1
  have e1 := cntL_len rs []
  have e2 := ht.length
  unfold cntL at h1
  rw [h1]
  simp only [List.length_nil] at e1
  omega
theorem getI (ns : List Nat) (i : Nat) (hlt : i < ns.length) : (ns.map (fun n : Nat => (n : Int))).getD i 0 = ((ns.getD i 0 : Nat) : Int) := by simp [List.getD_eq_getElem?_getD, List.getElem?_map, List.getElem?_eq_getElem hlt]

theorem eq_int (d : Nat) (a : Int) (W : World) : (Op.equalIn (d + 1) 3 (.int .i64 a) (.int .i64 a)).run Try.prog W = .ok true W := by
  simp [Op.equalIn, run_underlying Try.underlying3]
theorem eq_3 (a b c : Int) (W : World) : (Op.equalIn 10000 81 (.agg #[.int .i64 a, .int .i64 b, .int .i64 c]) (.agg #[.int .i64 a, .int .i64 b, .int .i64 c])).run Try.prog W = .ok true W := by
  have he : Try.prog.plainKey 3 = true := by kernel_rfl
  obtain ⟨i0, hi0, _⟩ := info_parts infoNd
  have c1 : Try.prog.cellsOf 3 = 1 := by kernel_rfl
  rw [show (10000 : Nat) = 9999 + 1 from rfl, run_equalIn_array W 9999 _ _ Try.underlying81 hi0, c1, show List.range 3 = [0, 1, 2] from rfl]
  have p0 : (part 3 #[.int .i64 a, .int .i64 b, .int .i64 c] 0).run Try.prog W = .ok (.int .i64 a) W := run_part_plain W he rfl
  have p1 : (part 3 #[.int .i64 a, .int .i64 b, .int .i64 c] 1).run Try.prog W = .ok (.int .i64 b) W := run_part_plain W he rfl
  have p2 : (part 3 #[.int .i64 a, .int .i64 b, .int .i64 c] 2).run Try.prog W = .ok (.int .i64 c) W := run_part_plain W he rfl
  simp [Op.eqItems, Sem.run_bind, p0, p1, p2, Result.andThen_ok, eq_int 9998]
attribute [local go_sem] eq_3

set_option maxRecDepth 100000 in
set_option maxHeartbeats 3200000 in
theorem differsw_calls (w : World) (A0 : Option Addr) (c0 : Nat) (l : List S40) (hC : Kd.C k40 w A0 l.length l) (hc0 : l.length ≤ c0) (hf : Fits l) (hl : l.length ≤ 1048576)
    (B0 : Option Addr) (d0 : Nat) (m : List S40) (hD : Kd.C k40 w B0 m.length m) (hd0 : m.length ≤ d0) (hmf : Fits m) (hm : m.length ≤ 1048576) :
    Calls Try.prog 13 #[.slice A0 l.length c0, .slice B0 m.length d0] w (Yes w) := by
  have HTW := Aside0.mk (ltwo_calls w A0 c0 l hC hc0 hf hl B0 d0 m hD hd0 hmf hm)
  clear hC hf hD hmf
  go_enter Try.func13, Try.ntmps13
  go_wp2_with fail
  refine HTW.out.mono ?_
  rintro e w1 ⟨hb1, va, vb, qa, qb, Aa, Ab, na, ca, nb, cb, rfl, hTa, hTb⟩
  obtain rfl := hTa.len
  obtain rfl := hTb.len
  have HB1 := Aside0.mk hb1
  have HTA := Aside0.mk hTa
  have HTB := Aside0.mk hTb
  have HA := Aside0.mk (awake_calls w1)
  clear hb1 hTa hTb HTW
  go_wp2_with fail
  refine HA.out.mono ?_
  rintro e w2 ⟨rfl, hb2⟩
  have HB2 := Aside0.mk (HB1.out.trans (hb2.mono HB1.out.size))
  have hTa := HTA.out.below hb2
  have hTb := HTB.out.below hb2
  clear hb2 HB1 HTA HTB HA
  have HNA := Aside0.mk (fun (W : World) (h : Below w2.heap.size w2 W) => hTa.han.below h)
  have HNB := Aside0.mk (fun (W : World) (h : Below w2.heap.size w2 W) => hTb.han.below h)
  have HLA := Aside0.mk (fun (p : Nat) (_ : p < 1114112) => sayQ_le hTa.rise p)
  have HLB := Aside0.mk (fun (p : Nat) (_ : p < 1114112) => sayQ_le hTb.rise p)
  have HRA := Aside0.mk (show Til (sayQ qa) 1114112 0 (runsN [] 0 qa) from runsN_ok hTa.rise)
  have HRB := Aside0.mk (show Til (sayQ qb) 1114112 0 (runsN [] 0 qb) from runsN_ok hTb.rise)
  have HDD := Aside0.mk (fun (W : World) (h : Below w2.heap.size w2 W) => difd_calls W hTa.rise hTb.rise hTa.few hTb.few (Kd.C_below hTa.mem h) hTa.cap (Kd.C_below hTb.mem h) hTb.cap)
  have HND := Aside0.mk (fun (W : World) (h : Below w2.heap.size w2 W) => numsd_calls W hTa.rise hTa.few (Kd.C_below hTa.mem h) hTa.cap)
  have HNE := Aside0.mk (fun (W : World) (h : Below w2.heap.size w2 W) => numsd_calls W hTb.rise hTb.few (Kd.C_below hTb.mem h) hTb.cap)
  have HMD := Aside0.mk (fun (W : World) (h : Below w2.heap.size w2 W) => mostd_calls W hTa.rise hTa.few (Kd.C_below hTa.mem h) hTa.cap)
  have HBD := Aside0.mk (fun (W : World) (h : Below w2.heap.size w2 W) (n m : Nat) => (show Calls Try.prog 49 #[.slice Aa qa.length ca, .slice Ab qb.length cb, .int .i64 (n : Int), .int .i64 (m : Int)] W fun e w' => e = .returned (.int .i64 (bothN2 (sayQ qa) (sayQ qb) n m : Nat)) ∧ Below W.heap.size W w' from bothd_calls W hTa.rise hTb.rise hTa.few hTb.few (Kd.C_below hTa.mem h) hTa.cap (Kd.C_below hTb.mem h) hTb.cap n m))
  clear hTa hTb
  generalize sayQ qa = sa at *
  generalize sayQ qb = sb at *
  generalize runsN [] 0 qa = RA at *
  generalize runsN [] 0 qb = RB at *
  generalize qa.length = na at *
  generalize qb.length = nb at *
  have HDI := Aside0.mk (differ_calls w2 va vb sa sb (HNA.out _ (Below.refl _ _)) (HNB.out _ (Below.refl _ _)))
  go_wp2_with fail
  refine HDI.out.mono ?_
  rintro e w3 ⟨hb3, vS, rs, rfl, htil, hR3⟩
  obtain ⟨A3, c3, rfl, hc3, hC3⟩ := Kd.R_reads hR3
  have hspan := spans_D htil
  have hdo := difO_is (sa := sa) (sb := sb) (fun p => rfl) HRA.out HRB.out htil
  have hdo : difO RB RA [] = ofD rs := hdo
  have HB3 := Aside0.mk hb3
  have HDW := Aside0.mk (HDD.out _ hb3)
  rw [hdo] at HDW
  generalize ofD rs = D at *
  have HC3 := Aside0.mk hC3
  have HSP := Aside0.mk hspan
  rw [List.length_map] at hc3 ⊢
  clear hb3 htil hdo hspan hC3 hR3 HDI HDD
  go_wp2_with fail
  refine HDW.out.mono ?_
  rintro e w4 ⟨hb4, A4, c4, rfl, hc4, hC4⟩
  have HB4 := Aside0.mk (HB3.out.trans (hb4.mono HB3.out.size))
  have hsc := posternlaw08_spans.calls (D.length + 1) A3 c3 (D.map toD) A4 c4 (D.map toS) 1 true w4 (Kd.C_below (by have := HC3.out; rwa [List.length_map] at *) hb4) (by rw [List.length_map]; exact hc3) (by rw [List.length_map]; exact hC4) (by rw [List.length_map]; exact hc4) HSP.out
  rw [List.length_map, List.length_map] at hsc
  have HSC := Aside0.mk hsc
  clear hb4 hC4 hsc HDW HSP HC3 HB3
  go_wp2_with fail
  refine HSC.out.mono ?_
  rintro e w5 ⟨rfl, hb5⟩
  have HB5 := Aside0.mk (HB4.out.trans (hb5.mono HB4.out.size))
  have HNU := Aside0.mk (numbers_calls w5 va sa (HNA.out _ HB5.out))
  clear hb5 HSC HB4
  generalize D.length = Dl at *
  go_wp2_with fail
  refine HNU.out.mono ?_
  rintro e w6 ⟨hb6, A6, c6, rs6, zs, rfl, ht6, hp6, hs6, hC6⟩
  obtain rfl : RA = rs6 := HRA.out.uniq ht6
  obtain ⟨ns, hp, rfl⟩ := nums_un hp6
  obtain rfl : ns = numsT RA := nums_same hp (by rw [List.pairwise_map] at hs6; exact hs6.imp (fun h => by omega))
  have HB6 := Aside0.mk (HB5.out.trans (hb6.mono HB5.out.size))
  have HC6 := Aside0.mk hC6
  have HNW := Aside0.mk (HND.out _ HB6.out)
  rw [List.length_map]
  clear hb6 ht6 hp6 hs6 hC6 hp HNU HB5 HND
  go_wp2_with fail
  refine HNW.out.mono ?_
  rintro e w7 ⟨hb7, A7, c7, rfl, hc7, hC7⟩
  have HB7 := Aside0.mk (HB6.out.trans (hb7.mono HB6.out.size))
  have HC67 := Aside0.mk (Kd.C_below HC6.out hb7)
  have HC7 := Aside0.mk hC7
  have HMO := Aside0.mk (most_calls w7 va sa (HNA.out _ HB7.out))
  clear hb7 hC7 HNW HC6 HB6
  go_wp2_with fail
  refine HMO.out.mono ?_
  rintro e w8 ⟨hb8, rs8, ns8, rfl, ht8, hp8, hs8⟩
  obtain rfl : RA = rs8 := HRA.out.uniq ht8
  have hmost := most_same hp8 hs8
  rw [hmost]
  have HB8 := Aside0.mk (HB7.out.trans (hb8.mono HB7.out.size))
  have HC68 := Aside0.mk (Kd.C_below HC67.out hb8)
  have HC78 := Aside0.mk (Kd.C_below HC7.out hb8)
  have HMW := Aside0.mk (HMD.out _ HB8.out)
  have HPR := Aside0.mk (fun (W : World) (h : Below w2.heap.size w2 W) => pairs_calls W va vb sa sb (HNA.out _ h) (HNB.out _ h) HLA.out HLB.out)
  unfold MostDPost at HMW
  clear hb8 ht8 hp8 hs8 hmost HMO HC67 HC7 HB7 HMD
  generalize mostF (fun n => manyK n RA) (numsT RA) = bm at *
  go_wp2_with fail
  refine HMW.out.mono ?_
  rintro e w9 ⟨hb9, rfl⟩
  have HB9 := Aside0.mk (HB8.out.trans (hb9.mono HB8.out.size))
  have HC69 := Aside0.mk (Kd.C_below HC68.out hb9)
  have HC79 := Aside0.mk (Kd.C_below HC78.out hb9)
  have HPW := Aside0.mk (HPR.out _ HB9.out)
  clear hb9 HMW HPR HC68 HC78 HB8
  go_wp2_with fail
  refine HPW.out.mono ?_
  rintro e w10 ⟨hb10, A10, c10, rsP, l0, rfl, htP, hpP, hsP, hC10⟩
  have hl0 := pairs_same HLA.out HLB.out htP HRA.out HRB.out hpP hsP
  have hEl := allE_len hl0 hpP htP
  have HB10 := Aside0.mk (HB9.out.trans (hb10.mono HB9.out.size))
  have HC6 := Aside0.mk (Kd.C_below HC69.out hb10)
  have HC7 := Aside0.mk (Kd.C_below HC79.out hb10)
  subst hl0
  have HC10 := Aside0.mk hC10
  have hnA := numsT_len RA
  have hnB := numsT_len RB
  have hrA := HRA.out.length
  have hrB := HRB.out.length
  rw [List.length_map]
  clear hb10 htP hpP hsP hC10 HPW HC69 HC79 HB9 HRA HRB HLA HLB HNA HNB
  have HMID := Aside0.mk (fun i j h => pairs_mid (bothN2 sa sb) (numsT RB) (numsT RA) i j h)
  generalize numsT RA = ns at *
  generalize numsT RB = ms at *
  have HCB := Aside0.mk (fun n m => (show bothN2 sa sb n m ≤ 1114112 by unfold bothN2; have := cntQ_not (fun p => decide (sa p = n) && decide (sb p = m)) 1114112 0; omega))
  generalize bothN2 sa sb = cc at *
  obtain ⟨E, hE⟩ : ∃ E, E = allE cc ms ns := ⟨_, rfl⟩
  have HE := Aside0.mk hE
  rw [← hE] at HC10 hEl ⊢
  replace HMID := Aside0.mk (fun i j h => (show ∃ tl, E = allE cc ms (ns.take i) ++ rowE2 cc (ns.getD i 0) (ms.take j) ++ tl by rw [HE.out]; exact HMID.out i j h))
  rw [List.length_map] at HC10
  clear hE
  go_wp2
  go_loopg [17, 80] (ns.length + 1) (fun k v17 v80 wr => ∃ i : Nat, i ≤ ns.length ∧ ns.length + 1 - i ≤ k ∧ v80 = .int .i64 (i : Int) ∧ v17 = .int .i64 (((allE cc ms (ns.take i)).length : Nat) : Int) ∧ Aside0 (Below w10.heap.size w10 wr))
  case atStart => exact ⟨0, by omega, by omega, rfl, rfl, ⟨Below.refl _ _⟩⟩
  case round =>
    obtain ⟨i, hi, hk, rfl, rfl, hB⟩ := hrel
    by_cases hlt : i < ns.length
    · have hlt' : (i : Int) < (ns.length : Int) := by omega
      obtain ⟨ad7, rfl, k7⟩ := at_I (Kd.C_below HC7.out hB.out) i (by rw [List.length_map]; exact hlt)
      obtain ⟨ad6, rfl, k6⟩ := at_I (Kd.C_below HC6.out hB.out) i (by rw [List.length_map]; exact hlt)
      rw [getI ns i hlt] at k6 k7
      have HST := Aside0.mk (allE_take cc ms ns i hlt)
      have HMI := Aside0.mk (fun j => HMID.out i j hlt)
      have HNW := Aside0.mk (HNE.out wr (HB10.out.trans (hB.out.mono HB10.out.size)))
      generalize ns.getD i 0 = n at k6 k7 HST HMI
      generalize hL : allE cc ms (ns.take i) = L at HST HMI
      obtain ⟨gko, rfl⟩ : ∃ n, n = gk := ⟨_, rfl⟩
      obtain ⟨wo, rfl⟩ : ∃ x, x = wr := ⟨_, rfl⟩
      have HBO := hB
      clear hB
      go_wp2_with fail
      refine HNW.out.mono ?_
      rintro e w11 ⟨hb11, A11, c11, rfl, hc11, hC11⟩
      have HB11 := Aside0.mk (HBO.out.trans (hb11.mono HBO.out.size))
      have HC11 := Aside0.mk hC11
      clear hb11 hC11 HNW k6 k7 HBO hL
      go_wp2
      go_loopg [17, 94] (ms.length + 1) (fun k v17 v94 wr => ∃ j : Nat, j ≤ ms.length ∧ ms.length + 1 - j ≤ k ∧ v94 = .int .i64 (j : Int) ∧ v17 = .int .i64 (((L ++ rowE2 cc n (ms.take j)).length : Nat) : Int) ∧ Aside0 (Below w11.heap.size w11 wr))
      case atStart => exact ⟨0, by omega, by omega, rfl, by simp [rowE2], ⟨Below.refl _ _⟩⟩
      case round =>
        obtain ⟨j, hj, hjk, rfl, rfl, hB⟩ := hrel
        by_cases hlt2 : j < ms.length
        · have hlt2' : (j : Int) < (ms.length : Int) := by omega
          obtain ⟨ad, rfl, k0⟩ := at_I (Kd.C_below HC11.out hB.out) j (by rw [List.length_map]; exact hlt2)
          rw [getI ms j hlt2] at k0
          have hst := rowE2_take cc n ms j hlt2
          obtain ⟨tl, hmid⟩ := HMI.out (j + 1)
          have HBW := Aside0.mk (HB11.out.trans (hB.out.mono HB11.out.size))
          have HBC := Aside0.mk (HBD.out wr (HB10.out.trans (HBW.out.mono HB10.out.size)) n (ms.getD j 0))
          rw [hst] at hmid
          generalize ms.getD j 0 = m at k0 hst hmid HBC
          have hmb : cc n m ≤ 1114112 := HCB.out n m
          generalize cc n m = v at hst hmid HBC hmb
          have hs0 : v = 0 → (L ++ rowE2 cc n (ms.take (j + 1))).length = (L ++ rowE2 cc n (ms.take j)).length := fun h => by rw [hst, if_pos h, List.append_nil]
          have hs1 : v ≠ 0 → (L ++ rowE2 cc n (ms.take (j + 1))).length = (L ++ rowE2 cc n (ms.take j)).length + 1 ∧ (L ++ rowE2 cc n (ms.take j)).length < E.length ∧ E.getD (L ++ rowE2 cc n (ms.take j)).length z3 = (n, m, v) := fun h => by
            rw [if_neg h] at hst hmid
            rw [← List.append_assoc, List.append_assoc _ [_] tl] at hmid
            rw [hst, hmid]
            refine ⟨by simp only [List.length_append, List.length_singleton]; omega, by simp only [List.length_append, List.length_singleton, List.length_cons]; omega, ?_⟩
            rw [List.getD_eq_getElem?_getD, List.getElem?_append_right (Nat.le_refl _), Nat.sub_self]
            rfl
          have HS0 := Aside0.mk hs0
          have HS1 := Aside0.mk hs1
          clear hs0 hs1 hst hmid
          generalize (L ++ rowE2 cc n (ms.take j)).length = at_ at *
          obtain ⟨wx, rfl⟩ : ∃ x, x = wr := ⟨_, rfl⟩
          have HBX := hB
          clear hB
          go_wp2_with fail
          refine HBC.out.mono ?_
          rintro e w12 ⟨rfl, hb12⟩
          have HB12 := Aside0.mk (HBX.out.trans (hb12.mono HBX.out.size))
          have HBZ := Aside0.mk (HBW.out.trans (hb12.mono HBW.out.size))
          clear hb12 HBC HBX HBW k0
          by_cases hv : v = 0
          · subst hv
            have HS3 := Aside0.mk (HS0.out rfl)
            go_wp2
            go_roundg (gk - 1)
            case measure => omega
            case rel => exact ⟨j + 1, by omega, by omega, by go_num, by rw [HS3.out], HB12⟩
          · have hv' : ((v : Int) == 0) = false := beq_false_of_ne (by omega)
            have hv2 : ¬ (v : Int) = 0 := by omega
            obtain ⟨hS3, hlE, hgE⟩ := HS1.out hv
            have HS3 := Aside0.mk hS3
            obtain ⟨ad, rfl, e0, e1, e2⟩ := at_T30 (Kd.C_below HC10.out HBZ.out) (at_ : Int) (by omega) (by omega)
            rw [rd_map E _ hlE, hgE, Int.toNat_natCast] at e0 e1 e2
            replace e0 : _ = some (Value.int .i64 (n : Int)) := e0
            replace e1 : _ = some (Value.int .i64 (m : Int)) := e1
            replace e2 : _ = some (Value.int .i64 (v : Int)) := e2
            clear hS3 hgE HS1 HS0
            have hlE' : ¬ (E.length : Int) ≤ (at_ : Int) := by omega
            have hlE2 : (at_ : Int) < (E.length : Int) := by omega
            go_wp2
            go_roundg (gk - 1)
            case measure => omega
            case rel => exact ⟨j + 1, by omega, by omega, by go_num, by rw [HS3.out, Int.natCast_add]; rfl, HB12⟩
        · have hlt2' : ¬ (j : Int) < (ms.length : Int) := by omega
          obtain rfl : j = ms.length := by omega
          rw [List.take_of_length_le (Nat.le_refl _), ← HST.out]
          have HB12 := Aside0.mk (HB11.out.trans (hB.out.mono HB11.out.size))
          clear hB
          go_wp2_with fail
          go_roundg (gko - 1)
          case measure => omega
          case rel => exact ⟨i + 1, by omega, by omega, by go_num, rfl, HB12⟩
    · have hlt' : ¬ (i : Int) < (ns.length : Int) := by omega
      obtain rfl : i = ns.length := by omega
      rw [List.take_of_length_le (Nat.le_refl _), ← HE.out]
      have HF := Aside0.mk (HB2.out.trans ((HB10.out.trans (hB.out.mono HB10.out.size)).mono HB2.out.size))
      clear hB
      go_wp2
      go_ret
      exact ⟨rfl, HF.out⟩

end Go.Proofs.Ytajmbafljncjcaa.PStageOver
