/- StageUnpacks: the law's walk. (BEGUN: not whole) -/
import Derived.Test.YtajmbafljncjcaaUnpackDStageOver
import Derived.Test.YtajmbafljncjcaaBytesB
import Derived.Deep.DeepCutAuto
namespace Go.Proofs.Ytajmbafljncjcaa.PStageOver
open Go.RowKit Go.Proofs.YtajmbafljncjcaaW.PrintWords Go.Proofs.YtajmbafljncjcaaW.PrintLast Go.Proofs.YtajmbafljncjcaaW.PrintMore Go.Proofs.Ytajmbafljncjcaa.Stage Go.Proofs.Ytajmbafljncjcaa.Mp
set_option linter.unusedVariables false
set_option linter.unusedSimpArgs false

theorem packT_size3 (say : Nat → Nat) : (strOfNums (packT (tabSay say))).size ≤ 3000000 := by
  obtain ⟨a1, a2, a3, _⟩ := tabSay_ok say
  have : (strOfNums (packT (tabSay say))).size = (packT (tabSay say)).length := by simp [strOfNums, ByteArray.size]
  rw [this]
  generalize tabSay say = t at *
  unfold packT
  rw [List.length_append, List.length_append, flat_two, twoB_len, flat_blocks_len _ a2, a1]
  omega

set_option maxRecDepth 100000 in
set_option maxHeartbeats 3200000 in
theorem unpacksw_calls (w : World) (A0 : Option Addr) (c0 : Nat) (l : List S40) (hC : Kd.C k40 w A0 l.length l) (hc0 : l.length ≤ c0) (hf : Fits l) (hl : l.length ≤ 1048576)
    {A2 : Option Addr} {c2 : Nat} {zs : List Int} (hZ : Kd.C (Kd.int .i64) w A2 zs.length zs) (hzf : ∀ p ∈ zs, -9223372036854775808 ≤ p ∧ p ≤ 9223372036854775807) (hzl : zs.length ≤ 1048576)
    {A3 : Option Addr} {c3 : Nat} {ys : List Int} (hY : Kd.C (Kd.int .u8) w A3 ys.length ys) (hyf : ∀ p ∈ ys, 0 ≤ p ∧ p ≤ 255) (hyl : ys.length ≤ 1048576) (bs : ByteArray) (hbs : bs.size ≤ 1048576) (cut : Int) (hcut : -9223372036854775808 ≤ cut ∧ cut ≤ 9223372036854775807) :
    Calls Try.prog 7 #[.slice A0 l.length c0, .agg #[.slice A2 zs.length c2, .slice A3 ys.length c3, .string bs, .int .i64 cut]] w (Yes w) := by
  have HBu := Aside0.mk (fun (W : World) (hW : Below w.heap.size w W) => built2_calls W A0 c0 l (Kd.C_below hC hW) hc0 hf hl)
  have HZ := Aside0.mk hZ
  have HZF := Aside0.mk hzf
  have HY := Aside0.mk hY
  have HYF := Aside0.mk hyf
  clear hC hf hZ hzf hY hyf
  go_enter Try.func7, Try.ntmps7
  go_wp2_with fail
  have HBX := Aside0.mk (blk_new w [.slice A2 zs.length c2, .slice A3 ys.length c3, .string bs, .int .i64 cut] 57)
  have HB0 := Aside0.mk (below_alloc (Below.refl w.heap.size w) (.cells #[.slice A2 zs.length c2, .slice A3 ys.length c3, .string bs, .int .i64 cut] 57))
  have HBu2 := HBu.out _ HB0.out
  have hg0 : w.heap.size < (w.alloc (.cells #[.slice A2 zs.length c2, .slice A3 ys.length c3, .string bs, .int .i64 cut] 57)).heap.size := by rw [alloc_size]; omega
  generalize hg : w.heap.size = g0 at HBX hg0 ⊢
  generalize (w.alloc (.cells #[.slice A2 zs.length c2, .slice A3 ys.length c3, .string bs, .int .i64 cut] 57)) = wb at *
  refine HBu2.mono ?_
  intro e w1 hbu
  obtain ⟨hb1, v, A4, n4, c4, is, rfl, q, A, n, c, hT, hrow⟩ := hbu.rows
  have HB1 := Aside0.mk hb1
  have HA := Aside0.mk (awake_calls w1)
  have HT := Aside0.mk hT
  have HROW := Aside0.mk hrow
  clear hbu hb1 hT hrow HBu HBu2
  go_wp2_with fail
  refine HA.out.mono ?_
  rintro e w2 ⟨rfl, hb2⟩
  have HB2 := Aside0.mk (HB1.out.trans (hb2.mono HB1.out.size))
  have HT2 := Aside0.mk (HT.out.below hb2)
  have HPD := Aside0.mk (show Calls Try.prog 30 #[.slice A n c] w2 (PackDPost w2 (sayQ q)) from packd_calls w2 HT2.out)
  have HSZ := Aside0.mk (packT_size3 (sayQ q))
  clear hb2 HB1 HT HA
  go_upto_if 33 with fail
  go_cut [6] from 34 to 34 (fun v6 wx => v6 = .slice A n c ∧ w2 = wx)
  case first =>
    rcases HROW.out with ⟨rfl, rfl, rfl, rfl⟩ | ⟨rfl, rfl, rfl, rfl, rfl⟩
    · go_wp2_with fail
      go_meet
      exact ⟨rfl, rfl⟩
    · go_wp2_with fail
      go_meet
      exact ⟨rfl, rfl⟩
  case rest =>
  obtain ⟨rfl, rfl⟩ := hcut
  clear HROW
  go_wp2_with fail
  refine HPD.out.mono ?_
  rintro e w3 ⟨hb3, rfl⟩
  have HB3 := Aside0.mk (HB2.out.trans (hb3.mono HB2.out.size))
  clear hb3 HPD HT2
  generalize strOfNums (packT (tabSay (sayQ q))) = t at *
  generalize (tabSay (sayQ q)).unlike.length = L at *
  have hcv := fun (w : World) (s : ByteArray) => run_bytes_of_string (P := Try.prog) w 9 55 5 s Try.underlying9 Try.underlying55 Try.underlying5
  go_upto_region 8 with fail
  have HBB := Aside0.mk (show BBlk (w3.alloc (.cells (bytesRow t (grownCap w3 t.size 0 5)) 5 ((bytesRow t (grownCap w3 t.size 0 5)).size, (bytesRow t (grownCap w3 t.size 0 5)).size + 1))).drew w3.heap.size _ _ _ from bb_new w3 t (grownCap w3 t.size 0 5) 5 (bytesRow t (grownCap w3 t.size 0 5)).size)
  have HB4 := Aside0.mk (show Below wb.heap.size wb (w3.alloc (.cells (bytesRow t (grownCap w3 t.size 0 5)) 5 ((bytesRow t (grownCap w3 t.size 0 5)).size, (bytesRow t (grownCap w3 t.size 0 5)).size + 1))).drew from below_alloc (below_drew1 HB3.out) _)
  have HG1 := Aside0.mk (show wb.heap.size ≤ w3.heap.size from HB3.out.size)
  have HNN := Aside0.mk (show t.size ≤ (bytesRow t (grownCap w3 t.size 0 5)).size from by unfold bytesRow; rw [Array.size_append, Array.size_map]; exact Nat.le_add_right _ _)
  have HCP := Aside0.mk (grownCap_ge w3 t.size 0 5)
  have HXX := Aside0.mk (fun (W : World) (hW : Below wb.heap.size wb W) => (show Blk W g0 _ _ from (hW.block g0 hg0).trans HBX.out))
  clear HB3 HBX hcv
  generalize (w3.alloc (.cells (bytesRow t (grownCap w3 t.size 0 5)) 5 ((bytesRow t (grownCap w3 t.size 0 5)).size, (bytesRow t (grownCap w3 t.size 0 5)).size + 1))).drew = w4 at *
  generalize (bytesRow t (grownCap w3 t.size 0 5)).size = nn at *
  generalize grownCap w3 t.size 0 5 = cap at *
  generalize w3.heap.size = g1 at *
  generalize List.replicate (cap - t.size) (Value.int .u8 0) = rest at *
  have e0 := (HXX.out w4 HB4.out).cell 0
  rw [List.getElem?_cons_zero] at e0
  go_wp2
  go_loopg [12, 13, 44] (zs.length + 1) (fun k v12 v13 v44 wr => ∃ (i : Nat) (lb : List UInt8), i ≤ zs.length ∧ zs.length + 1 - i ≤ k ∧ v44 = .int .i64 (i : Int) ∧ Aside0 (lb.length = t.size) ∧ Aside0 (BBlk wr g1 (u8s lb ++ rest) 5 nn) ∧ Aside0 (Below wb.heap.size wb wr))
  case atStart => exact ⟨0, t.data.toList, by omega, by omega, rfl, ⟨by rw [Array.length_toList]; rfl⟩, HBB, HB4⟩
  case round =>
    obtain ⟨i, lb, hi, hik, rfl, HLB, HBL, HBW⟩ := hrel
    clear HBB HB4 e0
    by_cases hlt : i < zs.length
    · have hlt' : (i : Int) < (zs.length : Int) := by omega
      have HBA := Aside0.mk (HB0.out.trans (HBW.out.mono HB0.out.size))
      obtain ⟨ad, rfl, k0⟩ := Kd.at_int (Kd.C_below HZ.out HBA.out) (i : Int) (by omega) (by omega)
      rw [Int.toNat_natCast] at k0
      generalize rd zs (i : Int) = x at k0
      have e1 := (HXX.out wr HBW.out).cell 1
      rw [show ([.slice (some ad) zs.length c2, .slice A3 ys.length c3, .string bs, .int .i64 cut] : List Value)[1]? = some (.slice A3 ys.length c3) from rfl] at e1
      go_upto_region 11 with fail
      go_cut [44, 63] from 44 to 72 (fun v44 v63 wx => v44 = .int .i64 (i : Int) ∧ v63 = .bool (decide ((i : Int) < (ys.length : Int) ∧ 0 ≤ x ∧ x < (t.size : Int))) ∧ wr = wx)
      case first =>
        by_cases g1 : (i : Int) < (ys.length : Int)
        · by_cases g2 : x ≥ 0
          · by_cases g3 : x < (t.size : Int)
            · go_wp2_with fail
              go_meet
              exact ⟨rfl, congrArg Value.bool (decide_eq_true (show _ ∧ _ ∧ _ from ⟨g1, g2, g3⟩)).symm, rfl⟩
            · go_wp2_with fail
              go_meet
              exact ⟨rfl, congrArg Value.bool (decide_eq_false (by omega)).symm, rfl⟩
          · go_wp2_with fail
            go_meet
            exact ⟨rfl, congrArg Value.bool (decide_eq_false (by omega)).symm, rfl⟩
        · go_wp2_with fail
          go_meet
          exact ⟨rfl, congrArg Value.bool (decide_eq_false (by omega)).symm, rfl⟩
      case rest =>
        obtain ⟨rfl, rfl, rfl⟩ := hcut
        by_cases hG : (i : Int) < (ys.length : Int) ∧ 0 ≤ x ∧ x < (t.size : Int)
        · have hGd := decide_eq_true hG
          rw [hGd]
          obtain ⟨h1, h2, h3⟩ := hG
          obtain ⟨ad3, rfl, k3⟩ := Kd.at_int (Kd.C_below HY.out HBA.out) (i : Int) (by omega) (by omega)
          rw [Int.toNat_natCast] at k3
          obtain ⟨m, rfl⟩ : ∃ m : Nat, x = (m : Int) := ⟨x.toNat, by omega⟩
          have hm : m < lb.length := by rw [HLB.out]; omega
          have hy := HYF.out (rd ys (i : Int)) (by
            unfold rd
            rw [Int.toNat_natCast, List.getD_eq_getElem?_getD, List.getElem?_eq_getElem (show i < ys.length by omega)]
            exact List.getElem_mem _)
          generalize rd ys (i : Int) = y at k3 hy
          have k4 := HBL.out.cell m
          rw [u8s_get lb rest m hm] at k4
          have k5 := HBL.out.free m (by have := HNN.out; have := HLB.out; omega)
          have HBS := Aside0.mk (show BBlk (wr.setCell ⟨g1, m, none⟩ (.int .u8 y)) g1 (u8s (lb.set m (UInt8.ofNat y.toNat)) ++ rest) 5 nn from by
            have h := HBL.out.set m (.int .u8 (((UInt8.ofNat y.toNat).toNat : Nat) : Int))
            rw [u8s_set lb rest m hm] at h
            rw [show (((UInt8.ofNat y.toNat).toNat : Nat) : Int) = y by rw [UInt8.toNat_ofNat', Nat.mod_eq_of_lt (by omega)]; omega] at h
            exact h)
          have HBV := Aside0.mk (show Below wb.heap.size wb (wr.setCell ⟨g1, m, none⟩ (.int .u8 y)) from below_set HBW.out HG1.out)
          clear hGd
          go_wp2_with fail
          go_roundg (gk - 1)
          case measure => omega
          case rel => exact ⟨i + 1, _, by omega, by omega, by go_num, ⟨by rw [List.length_set]; exact HLB.out⟩, HBS, HBV⟩
        · have hGd := decide_eq_false hG
          rw [hGd]
          clear hG
          go_wp2
          go_roundg (gk - 1)
          case measure => omega
          case rel => exact ⟨i + 1, lb, by omega, by omega, by go_num, HLB, HBL, HBW⟩
    · have hlt' : ¬ (i : Int) < (zs.length : Int) := by omega
      obtain rfl : i = zs.length := by omega
      have e2 := (HXX.out wr HBW.out).cell 3
      rw [show ([.slice A2 zs.length c2, .slice A3 ys.length c3, .string bs, .int .i64 cut] : List Value)[3]? = some (.int .i64 cut) from rfl] at e2
      have e3 := (HXX.out wr HBW.out).cell 2
      rw [show ([.slice A2 zs.length c2, .slice A3 ys.length c3, .string bs, .int .i64 cut] : List Value)[2]? = some (.string bs) from rfl] at e3
      go_upto_region 14 with fail
      go_cut [82] from 73 to 82 (fun v82 wx => v82 = .bool (decide (0 < cut ∧ cut ≤ (t.size : Int))) ∧ wr = wx)
      case first =>
        by_cases g1 : cut > 0
        · by_cases g2 : cut ≤ (t.size : Int)
          · go_wp2_with fail
            go_meet
            exact ⟨congrArg Value.bool (decide_eq_true (show _ ∧ _ from ⟨g1, g2⟩)).symm, rfl⟩
          · go_wp2_with fail
            go_meet
            exact ⟨congrArg Value.bool (decide_eq_false (by omega)).symm, rfl⟩
        · go_wp2_with fail
          go_meet
          exact ⟨congrArg Value.bool (decide_eq_false (by omega)).symm, rfl⟩
      case rest =>
        obtain ⟨rfl, rfl⟩ := hcut
        generalize hB : decide (0 < cut ∧ cut ≤ (t.size : Int)) = B
        go_upto_if 82 with fail
        go_cut [11] from 83 to 89 (fun v11 wx => ∃ n' : Nat, n' ≤ t.size ∧ v11 = .slice (some ⟨g1, 0, none⟩) n' cap ∧ wr = wx)
        case first =>
          cases B with
          | true =>
            have h := of_decide_eq_true hB
            have hcp := HCP.out
            have hsz := HSZ.out
            obtain ⟨m, hm⟩ : ∃ m : Nat, m = t.size - cut.toNat := ⟨_, rfl⟩
            have hws : wrap64 ((t.size : Int) - cut) = (m : Int) := by unfold wrap64; omega
            have hmc : m ≤ cap := by omega
            have hmt : m ≤ t.size := by omega
            clear hm hcp hsz h hB
            go_wp2_with fail
            go_meet
            exact ⟨m, hmt, rfl, rfl⟩
          | false =>
            go_wp2_with fail
            go_meet
            exact ⟨t.size, Nat.le_refl _, rfl, rfl⟩
        case rest =>
          obtain ⟨n', hn', rfl, rfl⟩ := hcut
          have hcw := Go.Lib.run_convert_window (P := Try.prog) wr 55 5 9 Try.underlying55 Try.underlying5 Try.underlying9 g1 0 ⟨lb.toArray⟩ HBL.out.bytes 0 n' cap (by
            have : (⟨lb.toArray⟩ : ByteArray).size = lb.length := by simp [ByteArray.size]
            have := HLB.out
            omega)
          rw [Nat.zero_add, Nat.zero_add] at hcw
          have hs1 : ((⟨lb.toArray⟩ : ByteArray).extract 0 n').size ≤ 3000000 := by
            rw [ByteArray.size_extract]
            have := HSZ.out
            omega
          generalize (⟨lb.toArray⟩ : ByteArray).extract 0 n' = s1 at *
          clear hB HBL HLB
          go_upto_region 17 with fail
          have hs2 : (s1 ++ bs).size ≤ 140737488351232 := by rw [ByteArray.size_append]; omega
          generalize s1 ++ bs = s at *
          have HUN := Aside0.mk (unpack_calls wr s hs2)
          have HUD := Aside0.mk (fun (W : World) => unpd_calls W s hs2)
          clear hs2 hs1 e2 e3 hcw hn'
          go_wp2_with fail
          refine HUN.out.mono ?_
          rintro e w5 ⟨hb5, hcase⟩
          have HB5 := Aside0.mk (HBW.out.trans (hb5.mono HBW.out.size))
          have HC5 := Aside0.mk hcase
          have HD := Aside0.mk (HUD.out w5)
          clear hb5 hcase HUN HUD HBW
          by_cases hpk : Packed s
          · obtain ⟨b, rfl, hT⟩ : ∃ b, e = .returned (.tuple #[.pointer (some ⟨b, 0, none⟩), .int .i64 0]) ∧ TabSays w5 b (wdSay s) := by
              rcases HC5.out with ⟨_, h⟩ | ⟨h, _⟩
              · exact h
              · exact absurd hpk h
            have HT5 := Aside0.mk hT
            have HPKD := Aside0.mk hpk
            clear hT HC5 hpk
            go_wp2_with fail
            refine HD.out.mono ?_
            rintro e w6 ⟨hb6, hcase⟩
            obtain ⟨q2, A6, c6, rfl, hQ, hnz, hsay⟩ : ∃ q A c, e = .returned (.tuple #[.slice A q.length c, .bool true]) ∧ QIn w6 q A q.length c ∧ nz (runsN [] 0 q) = q ∧ ∀ p, p < 1114112 → sayQ q p = wdSay s p := by
              rcases hcase with ⟨_, h⟩ | ⟨h, _⟩
              · exact h
              · exact absurd HPKD.out h
            have HB6 := Aside0.mk (HB5.out.trans (hb6.mono HB5.out.size))
            have HT6 := Aside0.mk (HT5.out.below hb6)
            have HTB := Aside0.mk (show Tbl w6 (some ⟨b, 0, none⟩) q2 A6 q2.length c6 from ⟨hQ.len, .inr ⟨b, rfl, by
              obtain ⟨g, cc, g', cc', h⟩ := HT6.out
              exact ⟨g, cc, g', cc', by rw [tabSay_congr hsay]; exact h⟩⟩, hQ.rise, hQ.few, hQ.cap, hQ.mem⟩)
            have hro := HTB.out.asked.rows
            have hsm := HTB.out.asked.same
            rw [hnz] at hro hsm
            have HRO := Aside0.mk hro
            have HSM := Aside0.mk hsm
            have HQC := Aside0.mk hQ.cap
            have HQM := Aside0.mk hQ.mem
            have HPK := Aside0.mk (show ∀ (W : World), Below w6.heap.size w6 W → Calls Try.prog 33 #[.pointer (some ⟨b, 0, none⟩)] W (fun e w' => Below W.heap.size W w' ∧ e = .returned (.string s)) from fun W hW => by
              have h := pack_calls W (some ⟨b, 0, none⟩) (wdSay s) (.inr ⟨b, rfl, HT6.out.below hW⟩)
              unfold PackPost at h
              rw [HPKD.out.2] at h
              exact h)
            clear hcase hb6 hQ hnz hsay hro hsm HD HB5 HT5 HTB
            generalize q2.length = n6 at *
            go_wp2_with fail
            refine (HRO.out w6 (Below.refl _ _)).mono ?_
            rintro e w7 ⟨hb7, A7, c7, rfl, hl7, hC7⟩
            have HB7 := Aside0.mk (HB6.out.trans (hb7.mono HB6.out.size))
            have HH7 := Aside0.mk hb7
            have HSR := Aside0.mk (HSM.out w7 A7 A6 c7 c6 hl7 HQC.out hC7 (Kd.C_below HQM.out hb7))
            clear hb7 hl7 hC7 HSM HQC HQM HRO HB6
            go_wp2_with fail
            refine HSR.out.mono ?_
            rintro e w8 ⟨rfl, hb8⟩
            have HB8 := Aside0.mk (HB7.out.trans (hb8.mono HB7.out.size))
            have HP8 := Aside0.mk (HPK.out w8 (HH7.out.trans (hb8.mono HH7.out.size)))
            clear hb8 HSR HB7 HPK HH7
            go_wp2_with fail
            refine HP8.out.mono ?_
            rintro e w9 ⟨hb9, rfl⟩
            have HB9 := Aside0.mk (HB8.out.trans (hb9.mono HB8.out.size))
            clear hb9 HP8 HB8
            go_wp2
            go_ret
            exact ⟨by simp, HB0.out.trans (HB9.out.mono HB0.out.size)⟩
          · obtain rfl : e = .returned (.tuple #[.pointer none, .int .i64 82]) := by
              rcases HC5.out with ⟨h, _⟩ | ⟨_, h⟩
              · exact absurd h hpk
              · exact h
            have HPKD := Aside0.mk hpk
            clear HC5 hpk
            go_wp2_with fail
            refine HD.out.mono ?_
            rintro e w6 ⟨hb6, hcase⟩
            obtain ⟨A6, n6, c6, rfl⟩ : ∃ A n c, e = .returned (.tuple #[.slice A n c, .bool false]) := by
              rcases hcase with ⟨h, _⟩ | ⟨_, h⟩
              · exact absurd h HPKD.out
              · exact h
            have HB6 := Aside0.mk (HB5.out.trans (hb6.mono HB5.out.size))
            clear hcase hb6 HB5 HD
            go_wp2
            go_ret
            exact ⟨by simp, HB0.out.trans (HB6.out.mono HB0.out.size)⟩

end Go.Proofs.Ytajmbafljncjcaa.PStageOver
