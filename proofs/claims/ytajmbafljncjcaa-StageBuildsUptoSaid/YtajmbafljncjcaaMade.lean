/- made: a table of what is laid over each block. -/
import Derived.Test.YtajmbafljncjcaaMadeSt
namespace Go.Proofs.Ytajmbafljncjcaa.Stage
open Go.RowKit Go.Proofs.YtajmbafljncjcaaW.PrintWords Go.Proofs.YtajmbafljncjcaaW.PrintLast Go.Proofs.YtajmbafljncjcaaW.PrintMore Go.Proofs.Ytajmbafljncjcaa.Mp
set_option linter.unusedVariables false
set_option linter.unusedSimpArgs false
attribute [local go_sem ↓] Go.wp_at_zero Go.wp_at_succ
theorem ld_block (ρ : Operand → Value) (dst : Option Tmp) (x : Operand) (t' : TypeId) (pos : String) (af : Array Edge) (g : Option (Nat × Bool)) (W : World) (h : rangeOk W (ρ x) 128 = true) :
    Sem.run Try.prog (execOp ρ { dst := dst, op := .load 91 x, type := t', pos := pos, after := af, guard := g }) W = .ok (.value (.agg (rangeOf W (ρ x) 128))) W :=
  run_load_range Try.underlying91 rfl size_block ρ dst x t' pos af g W h
theorem bs_block (ρ : Operand → Value) (dst : Option Tmp) (x : Operand) (t' : TypeId) (pos : String) (af : Array Edge) (g : Option (Nat × Bool)) (W : World) (h : (match ρ x with | .agg cs => decide (cs.size = 128) | _ => false) = true) :
    Sem.run Try.prog (execOp ρ { dst := dst, op := .buildSlice 93 1 #[(0, x)], type := t', pos := pos, after := af, guard := g }) W = .ok (.value (.slice (some ⟨W.heap.size, 0, none⟩) 1 1)) (W.alloc (.cells (ρ x).cells 91)) :=
  op_buildSlice_row Try.underlying93 laid_block (by omega) (by omega) ρ dst x t' pos af g W h
attribute [local go_sem ↓] ld_block bs_block

set_option maxRecDepth 100000 in
set_option maxHeartbeats 1600000 in
theorem made_calls {w0 : World} {N : FuncId} {cap : Array Value} {Pr : Nat → Prop} {S : Nat → World → Prop} {bs : Nat → List Nat} (F : Fill w0 N cap Pr S bs) (h16 : ∀ i, i < 8704 → ∀ j, (bs i).getD j 0 ≤ 65535) :
    Calls Try.prog 58 #[.func (.func N) #[] cap] w0 (postMade w0 Pr S bs) := by
  have HF := Aside0.mk F
  have ent := F.ent
  have hmm := @run_makeMap Try.prog
  clear F
  go_enter Try.func58, Try.ntmps58
  go_wp2_with (first
    | (with_reducible refine wpList_build0 rfl 96 rfl _ zero_Table Try.underlying96 (.inr ⟨_, rfl, by decide⟩) ?_)
    | (with_reducible refine wpList_box rfl 96 (.tmp 11) rfl _ rfl ?_)
    | (with_reducible refine wpList_alloc rfl 91 rfl _ zero_block ?_)
    | fail)
  have HS := Aside0.mk (made_start w0)
  have HK := Aside0.mk (show Keeps Pr w0 (((w0.alloc (.cells (whCells [] (.slice none 0 0) (.slice none 0 0)).toArray 96)).alloc (.map #[] 0)).alloc (.cells (natCells .u16 zeros128).toArray 91)) from (((Keeps.refl Pr w0).alloc _).alloc _).alloc _)
  have HF0 := Aside0.mk (HF.out.stable 0 w0 (((w0.alloc (.cells (whCells [] (.slice none 0 0) (.slice none 0 0)).toArray 96)).alloc (.map #[] 0)).alloc (.cells (natCells .u16 zeros128).toArray 91)) HF.out.start (fun k hk => by
    rw [Below.heap_alloc _ _ _ (by simp; omega), Below.heap_alloc _ _ _ (by simp; omega), Below.heap_alloc _ _ _ hk]))
  generalize (((w0.alloc (.cells (whCells [] (.slice none 0 0) (.slice none 0 0)).toArray 96)).alloc (.map #[] 0)).alloc (.cells (natCells .u16 zeros128).toArray 91)) = W1 at HS HK HF0
  obtain ⟨T, hT⟩ : ∃ T, T = w0.heap.size := ⟨_, rfl⟩
  obtain ⟨M, hM⟩ : ∃ M, M = w0.heap.size + 1 := ⟨_, rfl⟩
  obtain ⟨B, hB⟩ : ∃ B, B = w0.heap.size + 2 := ⟨_, rfl⟩
  rw [← hB, ← hM, ← hT] at HS
  rw [← hB, ← hM, ← hT]
  have HD := Aside0.mk (show T ≠ M ∧ T ≠ B ∧ M ≠ B from ⟨by omega, by omega, by omega⟩)
  clear hT hM hB
  go_loopg [5, 14] 8704 (fun q v5 v14 wr => ∃ (k : Nat) (zz : Int) (wh : List Nat) (ul : List (List Nat)) (vu vp : Value), k ≤ 8704 ∧ 8704 - k ≤ q ∧ v14 = .int .i64 (k : Int) ∧ v5 = .int .i64 zz ∧ -1 ≤ zz ∧ zz ≤ 8704 ∧
    Aside0 ((wh, ul) = canonB ((List.range k).map bs)) ∧ Aside0 (0 ≤ zz → zz.toNat < ul.length ∧ ul.getD zz.toNat [] = zeros128) ∧ Aside0 (MadeSt w0 wr T M B wh ul ul ul vu vp zeros128) ∧ Aside0 (S k wr) ∧ Aside0 (Keeps Pr w0 wr))
  case atStart => exact ⟨0, -1, [], [], .slice none 0 0, .slice none 0 0, by omega, by omega, rfl, rfl, by omega, by omega, ⟨rfl⟩, ⟨fun h => by omega⟩, HS, HF0, HK⟩
  case round =>
    obtain ⟨k, zz, wh, ul, vu, vp, hk, hq, rfl, rfl, hz1, hz2, hC, hZ, hSt, hS, hK⟩ := hrel
    clear HS HF0 HK
    by_cases hlt : k < 8704
    · have hlt' : (k : Int) < 8704 := by omega
      go_wp2_with fail
      refine (HF.out.call k hlt wr B hS.out hSt.out.lB hSt.out.hB hSt.out.lW).mono ?_
      rintro e w1 ⟨laid, rfl, hl0, hS1, hB1, hk1⟩
      have hSt1 := Aside0.mk (hSt.out.filled hk1 HF.out.pr hB1)
      have hK1 := Aside0.mk (hK.out.then hk1 (fun i hi h => h.resolve_right (fun e => by have := hSt.out.lB; omega)))
      have HS1 := Aside0.mk hS1
      have HL0 := Aside0.mk hl0
      clear hSt hS hK hS1 hB1 hk1 hl0
      have hok := canonB_ok ((List.range k).map bs)
      rw [← hC.out] at hok
      have hwl : wh.length = k := by simpa using hok.len
      have hfew : ul.length ≤ k := by simpa using hok.few
      have HOK := Aside0.mk hok
      have HC1 := Aside0.mk (show canonB ((List.range (k + 1)).map bs) = stepB (wh, ul) (bs k) from by rw [List.range_succ, List.map_append, List.map_singleton, canonB_snoc, ← hC.out])
      have hlen := HF.out.len k
      have HL := Aside0.mk hlen
      have HW := Aside0.mk hwl
      obtain ⟨x0, hx0⟩ := whCells_at vu vp (show wh.length < 8704 by omega)
      have cT := hSt1.out.hT.cell k
      rw [hwl] at hx0
      rw [hx0] at cT
      have fT := hSt1.out.hT.free k
      clear hok hx0 hlen hwl
      by_cases hA : laid = false ∧ 0 ≤ zz
      · obtain ⟨rfl, hz0⟩ := hA
        obtain ⟨z, rfl⟩ := Int.eq_ofNat_of_zero_le hz0
        have hzz := hZ.out hz0
        rw [Int.toNat_natCast] at hzz
        have hb0 := HL0.out rfl
        have HZ1 := Aside0.mk (show idxB (bs k) ul = z from idxB_at HOK.out.nodup hzz.1 (by rw [hb0]; exact hzz.2))
        have eu : IntKind.u16.wrap (z : Int) = (z : Int) := IntWalk.u16_in _ (by omega)
        have HSt2 := Aside0.mk (hSt1.out.which z (by rw [HW.out]; exact hlt))
        rw [HW.out] at HSt2
        have HS2 := Aside0.mk (HF.out.stable (k + 1) w1 (w1.setCell ⟨T, k, none⟩ (.int .u16 (z : Int))) HS1.out (fun i hi => Below.heap_setCell _ _ _ _ (fun e => by have := hSt1.out.lT; simp at e; omega)))
        have HK2 := Aside0.mk (hK1.out.setCell ⟨T, k, none⟩ (.int .u16 (z : Int)) (fun h => by have := hSt1.out.lT; simp at h; omega))
        have HZ := Aside0.mk hzz
        have HCn := Aside0.mk (show (wh ++ [z], ul) = canonB ((List.range (k + 1)).map bs) from by
          rw [HC1.out]
          simp [stepB, HZ1.out, hzz.1])
        have HS4 := Aside0.mk (show MadeSt w0 (w1.setCell ⟨T, k, none⟩ (.int .u16 (z : Int))) T M B (wh ++ [z]) ul ul ul vu vp zeros128 from by rw [← hb0]; exact HSt2.out)
        clear hzz hb0 hSt1 HS1 hK1
        go_wp2
        go_roundg (gk - 1)
        case measure => omega
        case rel => exact ⟨k + 1, (z : Int), wh ++ [z], ul, vu, vp, by omega, by omega, by go_num, rfl, by omega, hz2, HCn, ⟨fun _ => by rw [Int.toNat_natCast]; exact HZ.out⟩, HS4, HS2, HK2⟩
      · go_upto_region 9 with (fail)
        go_cut [27] from 22 to 27 (fun v27 wx => v27 = .bool false ∧ w1 = wx)
        case first =>
          cases laid with
          | true =>
            go_wp2
            go_meet
            case rel => exact ⟨rfl, rfl⟩
          | false =>
            have hz : ¬ 0 ≤ zz := fun h => hA ⟨rfl, h⟩
            have hz' : decide (0 ≤ zz) = false := decide_eq_false hz
            clear hA
            go_wp2
            go_meet
            case rel => exact ⟨rfl, rfl⟩
        case rest =>
          obtain ⟨rfl, rfl⟩ := hcut
          clear cT fT
          have hBl := Aside0.mk hSt1.out.hB
          obtain ⟨n0, th, hrun, ht1, ht0⟩ := hSt1.out.look_any (bs k) HL.out
          have HR2 := Aside0.mk hrun
          have HT1 := Aside0.mk ht1
          have HT0 := Aside0.mk ht0
          clear hrun ht1 ht0
          go_upto_if 42 with (first
            | (with_reducible refine wpList_load_blk rfl 91 (.tmp 6) rfl B rfl 91 _ _ hBl.out Try.underlying91 rfl (by rw [natCells_len, HL.out]; exact size_block) ?_)
            | (with_reducible refine wpList_lookup rfl (.tmp 36) (.tmp 37) 139 true rfl (.map (some M)) (ekB (bs k)) _ rfl rfl HR2.out ?_)
            | fail)
          go_cut [9] from 43 to 71 (fun v9 wx => ∃ (n : Nat) (ul' : List (List Nat)) (vu' vp' : Value), v9 = .int .u16 (n : Int) ∧ n ≤ 8704 ∧ ul'.length ≤ k + 1 ∧ Aside0 (stepB (wh, ul) (bs k) = (wh ++ [n], ul')) ∧ Aside0 (n < ul'.length ∧ ul'.getD n [] = bs k) ∧ Aside0 (MadeSt w0 wx T M B wh ul' ul' ul' vu' vp' (bs k)) ∧ Aside0 (S (k + 1) wx) ∧ Aside0 (Keeps Pr w0 wx))
          case first =>
            cases th with
            | true =>
              obtain ⟨h1, h2⟩ := HT1.out rfl
              have HE := Aside0.mk (show stepB (wh, ul) (bs k) = (wh ++ [n0], ul) from by simp [stepB, h1, h2])
              have HE' := Aside0.mk (show n0 < ul.length ∧ ul.getD n0 [] = bs k from ⟨by omega, by rw [h2]; exact idxB_get _ _ h1⟩)
              have hn : n0 ≤ 8704 := by omega
              clear h1 h2
              go_wp2
              go_meet
              case rel => exact ⟨n0, ul, vu, vp, rfl, hn, by omega, HE, HE', hSt1, HS1, hK1⟩
            | false =>
              have hnin := HT0.out rfl
              have hnl : idxB (bs k) ul = ul.length := by have := idxB_le (bs k) ul; omega
              have HE := Aside0.mk (show stepB (wh, ul) (bs k) = (wh ++ [ul.length], ul ++ [bs k]) from by simp [stepB, hnl])
              have HE' := Aside0.mk (show ul.length < (ul ++ [bs k]).length ∧ (ul ++ [bs k]).getD ul.length [] = bs k from ⟨by simp, getD_snoc_at _ _ _⟩)
              obtain ⟨Au, cu, rfl⟩ := own_slice hSt1.out.hu
              obtain ⟨Ap, cp, rfl⟩ := own_slice hSt1.out.hp
              have cU := (hSt1.out.hT.cell 8704).trans (whCells_u hSt1.out.wl _ _)
              have e16 : IntKind.u16.wrap (ul.length : Int) = (ul.length : Int) := IntWalk.u16_in _ (by omega)
              obtain ⟨o, hupd, hSt2⟩ := hSt1.out.upd (bs k) HL.out hnin
              have HU := Aside0.mk hupd
              have HB2 := Aside0.mk hSt2.hB
              have HS2 := Aside0.mk hSt2
              have HF2 := Aside0.mk (HF.out.stable (k + 1) w1 (setObjAt w1 M o) HS1.out (fun i hi => by have := hSt1.out.lM; simp [setObjAt, Array.getElem?_setIfInBounds, show ¬ M = i from by omega]))
              have HK2 := Aside0.mk (hK1.out.setObj M o (fun h => by have := hSt1.out.lM; omega))
              clear hupd hSt2 hnin hnl
              go_upto_region 15 with (first
                | (with_reducible refine wpList_load_blk rfl 91 (.tmp 6) rfl B rfl 91 _ _ hBl.out Try.underlying91 rfl (by rw [natCells_len, HL.out]; exact size_block) ?_)
                | (with_reducible refine wpList_update rfl rfl (.tmp 49) (.tmp 50) (.tmp 51) 139 rfl (.map (some M)) (ekB (bs k)) (.int .u16 ((ul.length : Nat) : Int)) rfl rfl rfl _ HU.out ?_)
                | fail)
              clear cU hBl HU
              generalize setObjAt w1 M o = W2 at HB2 HS2 HF2 HK2
              have hcb : (natCells .u16 (bs k)).length = 128 := by rw [natCells_len]; exact HL.out
              have hrg := range_blk HB2.out.drew
              rw [hcb] at hrg
              obtain ⟨rk, ro⟩ := hrg
              have cU := (HS2.out.hT.cell 8704).trans (whCells_u HS2.out.wl _ _)
              have cU1 : (W2.alloc (.cells (natCells .u16 (bs k)).toArray 91)).cell? ⟨T, 8704, none⟩ = some (.slice Au ul.length cu) := ((HS2.out.hT.alloc _).cell 8704).trans (whCells_u HS2.out.wl _ _)
              obtain ⟨i0, hi0, hz0, hz1, hz2⟩ := info_parts info_block
              have HI := Aside0.mk (show Try.prog.info? 91 = some i0 ∧ i0.zero = some (.agg (natCells .u16 zeros128).toArray) ∧ i0.size = 128 ∧ i0.bytes = 256 from ⟨hi0, hz0, hz1, hz2⟩)
              have HCB := Aside0.mk hcb
              clear hi0 hz0 hz1 hz2
              have hlw := HS2.out.lW
              go_cut [9] from 52 to 61 (fun v9 wx => v9 = .int .u16 (ul.length : Int) ∧ ∃ g cap, Aside0 (MadeSt w0 wx T M B wh (ul ++ [bs k]) (ul ++ [bs k]) ul (.slice (some ⟨g, 0, none⟩) (ul.length + 1) cap) (.slice Ap ul.length cp) (bs k)) ∧ Aside0 (S (k + 1) wx) ∧ Aside0 (Keeps Pr w0 wx))
              case first =>
                go_region_law ((refine step_append_lies _ (by rfl) (.tmp 56) (.tmp 58) 93 (by rfl) w0.heap.size 91 i0 _ 128 256 Try.underlying93 HI.out.1 HI.out.2.1 HI.out.2.2.1 HI.out.2.2.2 (by simp [Value.cells, natCells_len, zeros128_len]) (by omega) (.slice Au ul.length cu) ul.length (ul.flatMap (natCells .u16)) (by simp [Act.eval, Act.put]) (HS2.out.drew.hu.alloc _) ⟨W2.heap.size, 0, none⟩ 1 1 (natCells .u16 (bs k)) (by simp [Act.eval, Act.put]) (by rw [HCB.out]) (World.news_of_block (cs := (natCells .u16 (bs k)).toArray) (t := 91) (fr := (0, 0)) (heap_alloc_new W2.drew _)) (natCells_one _ _) (by omega) (by unfold maxLen; omega) (by omega) (by simp; omega) (W2.heap.size + 1) (by simp) ?_; intro g cap w2 hown1 hgrow hat hlt2; have hkU := (HS2.out.drew.keepU hgrow); have cU2 := hkU.1; have fU2 := hkU.2))
                all_goals
                  go_wp2
                  go_meet
                  case rel => exact ⟨rfl, g, cap, ⟨HS2.out.drew.unlike hown1 hgrow hat⟩, ⟨HF.out.stable (k + 1) W2 _ HF2.out (HS2.out.drew.old HS2.out.drew.hu hgrow _ _)⟩, ⟨HS2.out.drew.oldKeeps HS2.out.drew.hu hgrow _ _ HK2.out.drew⟩⟩
              case rest =>
                obtain ⟨rfl, g, cap', hS3, hF3, hK3⟩ := hcut
                clear rk ro cU cU1 HB2 HS2 HF2 HK2 HI
                have cP := (hS3.out.hT.cell 8705).trans (whCells_p hS3.out.wl _ _)
                have cP1 : (wc.alloc (.cells #[.bool (flatB (bs k))] 4)).cell? ⟨T, 8705, none⟩ = some (.slice Ap ul.length cp) := ((hS3.out.hT.alloc _).cell 8705).trans (whCells_p hS3.out.wl _ _)
                have HFC := Aside0.mk (show ∀ j, j < 128 → wc.cell? ⟨B, j, none⟩ = some (.int .u16 ((bs k).getD j 0 : Nat)) from fun j hj => (hS3.out.hB.cell j).trans (natCells_get _ _ _ (by rw [HL.out]; exact hj)))
                obtain ⟨j0, hj0, hy0, hy1, hy2⟩ := info_parts info_bool
                have HJ := Aside0.mk (show Try.prog.info? 4 = some j0 ∧ j0.zero = some (.bool false) ∧ j0.size = 1 ∧ j0.bytes = 1 from ⟨hj0, hy0, hy1, hy2⟩)
                clear hj0 hy0 hy1 hy2
                have hlw3 := hS3.out.lW
                go_upto_region 16 with (fail)
                go_region_law ((first
                  | (refine step_append_lies _ (by rfl) (.tmp 66) (.tmp 68) 94 (by rfl) w0.heap.size 4 j0 _ 1 1 Try.underlying94 HJ.out.1 HJ.out.2.1 HJ.out.2.2.1 HJ.out.2.2.2 (by simp [Value.cells]) (by omega) (.slice Ap ul.length cp) ul.length (ul.map fun b => .bool (flatB b)) (by simp [Act.eval, Act.put]) (hS3.out.drew.hp.alloc _) ⟨wc.heap.size, 0, none⟩ 1 1 [.bool (flatB (bs k))] (by simp [Act.eval, Act.put]) (by simp) (World.news_of_block (cs := #[.bool (flatB (bs k))]) (t := 4) (fr := (0, 0)) (heap_alloc_new wc.drew _)) (by simp [Value.oneCell']) (by omega) (by unfold maxLen; omega) (by omega) (by simp; omega) (wc.heap.size + 1) (by simp) ?_; intro g2 cap2 w2 hown2 hgrow2 hat2 hlt2; have hkP := (hS3.out.drew.keepP hgrow2); have cP2 := hkP.1; have fP2 := hkP.2)
                  | (go_simp; go_at_call 92; refine (flat_calls _ B (bs k) (by exact HFC.out)).mono ?_; rintro e w' ⟨rfl, rfl⟩)))
                all_goals
                  go_wp2
                  go_meet
                  case rel => exact ⟨ul.length, ul ++ [bs k], _, _, rfl, by omega, by simp; omega, HE, HE', ⟨hS3.out.drew.plained hown2 hgrow2 hat2⟩, ⟨HF.out.stable (k + 1) wc _ hF3.out (hS3.out.drew.old hS3.out.drew.hp hgrow2 _ _)⟩, ⟨hS3.out.drew.oldKeeps hS3.out.drew.hp hgrow2 _ _ hK3.out.drew⟩⟩
          case rest =>
            obtain ⟨n, ul', vu', vp', rfl, hn, hul', hst, hnu, hS2, hF2, hK2⟩ := hcut
            have hn16 : IntKind.u16.wrap (n : Int) = (n : Int) := IntWalk.u16_in _ (by omega)
            obtain ⟨x1, hx1⟩ := whCells_at vu' vp' (show wh.length < 8704 by rw [HW.out]; exact hlt)
            have cT := hS2.out.hT.cell k
            rw [HW.out] at hx1
            rw [hx1] at cT
            have fT := hS2.out.hT.free k
            have hS3 := hS2.out.which n (by rw [HW.out]; exact hlt)
            rw [HW.out] at hS3
            have HS3 := Aside0.mk hS3
            have HF3 := Aside0.mk (HF.out.stable (k + 1) wc (wc.setCell ⟨T, k, none⟩ (.int .u16 (n : Int))) hF2.out (fun i hi => Below.heap_setCell _ _ _ _ (fun e => by have := hS2.out.lT; simp at e; omega)))
            have HK3 := Aside0.mk (hK2.out.setCell ⟨T, k, none⟩ (.int .u16 (n : Int)) (fun h => by have := hS2.out.lT; simp at h; omega))
            have HB3 := Aside0.mk hS3.hB
            have HCn := Aside0.mk (show (wh ++ [n], ul') = canonB ((List.range (k + 1)).map bs) from by rw [HC1.out, hst.out])
            clear hx1 hS3 hS2 hF2 hK2 hSt1 HS1 hK1 hBl HR2 HT1 HT0
            have HFS := Aside0.mk (HF.out.stable (k + 1) (wc.setCell ⟨T, k, none⟩ (.int .u16 (n : Int))) ((wc.setCell ⟨T, k, none⟩ (.int .u16 (n : Int))).setRow B (natCells .u16 zeros128).toArray) HF3.out (fun i hi => Go.setRow_other _ _ _ _ (fun e => by have := HS3.out.lB; omega)))
            have HZ5 := Aside0.mk (show (0 : Int) ≤ zz → zz.toNat < ul'.length ∧ ul'.getD zz.toNat [] = zeros128 from fun h => by
              have h1 := hZ.out h
              have h2 := stepB_ext wh ul (bs k) n ul' hst.out zz.toNat h1.1
              exact ⟨h2.1, h2.2.trans h1.2⟩)
            cases laid with
            | true =>
              go_wp2_with (first
                | (with_reducible refine wpList_store_blk' rfl rfl 91 (.tmp 6) (.tmp 79) rfl B rfl 91 _ (natCells .u16 zeros128) _ rfl zc_block HB3.out (by rw [natCells_len, natCells_len, HL.out, zeros128_len]) (by rw [natCells_len, HL.out]; exact size_block) (natCells_one _ _) ?_)
                | fail)
              go_roundg (gk - 1)
              case measure => omega
              case rel => exact ⟨k + 1, zz, wh ++ [n], ul', vu', vp', by omega, by omega, by go_num, rfl, hz1, hz2, HCn, HZ5, ⟨HS3.out.cleared _⟩, HFS, ⟨HK3.out.setRow _ _ (fun h => by have := HS3.out.lB; omega)⟩⟩
            | false =>
              have hb0 := HL0.out rfl
              have HS4 := Aside0.mk (show MadeSt w0 (wc.setCell ⟨T, k, none⟩ (.int .u16 (n : Int))) T M B (wh ++ [n]) ul' ul' ul' vu' vp' zeros128 from by rw [← hb0]; exact HS3.out)
              have HZ4 := Aside0.mk (show (0 : Int) ≤ (n : Int) → (n : Int).toNat < ul'.length ∧ ul'.getD (n : Int).toNat [] = zeros128 from fun _ => by rw [Int.toNat_natCast, ← hb0]; exact hnu.out)
              clear hb0
              go_wp2
              go_roundg (gk - 1)
              case measure => omega
              case rel => exact ⟨k + 1, (n : Int), wh ++ [n], ul', vu', vp', by omega, by omega, by go_num, rfl, by omega, by omega, HCn, HZ4, HS4, HF3, HK3⟩
    · have hke : k = 8704 := by omega
      have hge : ¬ (k : Int) < 8704 := by omega
      have hdone := hSt.out.done hC.out (by simpa using hke) (by
        intro b hb j
        obtain ⟨i, hi, rfl⟩ := List.mem_map.1 hb
        exact h16 i (by have := List.mem_range.1 hi; omega) j)
      rw [hke] at hdone hS
      have HDn := Aside0.mk hdone
      clear hke hdone hSt hC hZ
      go_wp2
      go_ret
      obtain ⟨g, c, g', c', ht⟩ := HDn.out
      exact ⟨T, g, c, g', c', rfl, ht, hS.out, hK.out⟩

end Go.Proofs.Ytajmbafljncjcaa.Stage
