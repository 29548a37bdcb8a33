/- The document's Unpack: its walk, by hand. -/
import Derived.Test.YtajmbafljncjcaaPackDStageOver
import Derived.Test.YtajmbafljncjcaaUnpD
namespace Go.Proofs.Ytajmbafljncjcaa.PStageOver
open Go.RowKit Go.Proofs.YtajmbafljncjcaaW.PrintWords Go.Proofs.YtajmbafljncjcaaW.PrintLast Go.Proofs.YtajmbafljncjcaaW.PrintMore Go.Proofs.Ytajmbafljncjcaa.Stage Go.Proofs.Ytajmbafljncjcaa.Mp
set_option linter.unusedVariables false
set_option linter.unusedSimpArgs false

theorem add_list {w w1 : World} {v : Value} {say : Nat → Nat} {p : Nat} (hp : p < 1114112) {a m : Int} (ha : a = (p : Int)) (hm : m = (say p : Nat)) (hB : Below w.heap.size w w1) (ho : Kd.R k30 30 w1 w.heap.size (fun _ => True) v ((addsTo say p).map toS)) :
    Calls Try.prog 50 #[v, .agg #[.int .i64 a, .int .i64 a, .int .i64 m]] w1 fun e w' => ∃ v', e = .returned v' ∧ Kd.R k30 30 w' w.heap.size (fun _ => True) v' ((addsTo say (p + 1)).map toS) ∧ Below w.heap.size w w' := by
  have hl := addsTo_len say p
  refine (posternref08_add.calls (fun _ => True) v ((addsTo say p).map toS) a a m ((addsTo say (p + 1)).map toS) w w1 hB ho (add_f _ (by omega) (p, p, say p) _ _ _ ha ha hm)).mono ?_
  rintro e w' ⟨v', rfl, h1, h2, _⟩
  exact ⟨v', rfl, Kd.R_mono h1 fun _ _ => trivial, h2⟩

def UnpDPost (w : World) (s : ByteArray) (e : Ending) (w' : World) : Prop := Below w.heap.size w w' ∧
  ((Packed s ∧ ∃ q A c, e = .returned (.tuple #[.slice A q.length c, .bool true]) ∧ QIn w' q A q.length c ∧ nz (runsN [] 0 q) = q ∧ ∀ p, p < 1114112 → sayQ q p = wdSay s p) ∨
   (¬ Packed s ∧ ∃ A n c, e = .returned (.tuple #[.slice A n c, .bool false])))

set_option maxRecDepth 100000 in
set_option maxHeartbeats 3200000 in
theorem unpd_calls (w : World) (s : ByteArray) (hs : s.size ≤ 140737488351232) : Calls Try.prog 32 #[.string s] w (UnpDPost w s) := by
  have hpk := packed_tests s
  by_cases hlen : s.size < 17410
  · have hlen' : (s.size : Int) < 17410 := by omega
    have HF := Aside0.mk (show ∀ W : World, Below w.heap.size w W → UnpDPost w s (.returned (.tuple #[.slice none 0 0, .bool false])) W from fun W hW => ⟨hW, .inr ⟨fun h => by have := (hpk.1 h).1; omega, none, 0, 0, rfl⟩⟩)
    clear hpk
    go_enter Try.func32, Try.ntmps32
    go_wp2_with fail
    go_ret2
    exact HF.out _ (Below.refl _ _)
  · have hlen' : ¬ (s.size : Int) < 17410 := by omega
    have HTWO := Aside0.mk (fun (W : World) (i : Nat) (a : Int) (ha : a = 2 * (i : Int)) (hi : 2 * i + 1 < s.size) => two_calls W s i a ha (by omega) hi)
    have HPK := Aside0.mk hpk
    have HWL := Aside0.mk (fun i => wd_le s i)
    have hd := wd_le s 0
    have HT0 := Aside0.mk (fun (W : World) => HTWO.out W 0 0 (by omega) (by omega))
    clear hpk
    generalize hn : wd s 0 = n at *
    have HN := Aside0.mk hn
    clear hn
    go_enter Try.func32, Try.ntmps32
    go_wp2_with fail
    refine (HT0.out _).mono ?_
    rintro e w1 ⟨rfl, hb1⟩
    have HB1 := Aside0.mk hb1
    clear hb1
    by_cases hsz : s.size = 17410 + 256 * n
    · have hsz' : (s.size : Int) = 17410 + 256 * (n : Int) := by omega
      go_wp2_with (first | ((with_reducible refine gate_dst (N := 22) rfl ?_); refine Kd.R_lit k30 _ 30 ?hg (N := 22) ?hd (xs := ([] : List S30)) (inner := []) (ok := fun _ => True) (okp := fun _ => True) ?hr ?hp (fun _ hk => hk) trivial (Below.refl _ _) (Nat.le_refl _) (by simp) ?_; (case hd => rfl); (case hg => rfl); (case hr => first | (go_simp; done) | (go_simp; rfl)); (case hp => exact (Reps.none _ _)); intro v1 w2 ho1 hb1 hg1 hn1; clear hg1 hn1; have HO2 := Aside0.mk (show Kd.R k30 30 w2 w.heap.size (fun _ => True) v1 ((addsTo (wdSay s) (128 * 0)).map toS) from Kd.R_lower ho1 HB1.out.size); have HB2 := Aside0.mk (HB1.out.trans (hb1.mono HB1.out.size)); clear ho1 hb1))
      clear HB1
      go_loopg [4, 5] 8705 (fun k v4 v5 wr => ∃ b : Nat, b ≤ 8704 ∧ 8705 - b ≤ k ∧ v5 = .int .i64 (b : Int) ∧ Aside0 (∀ i, i < b → wd s (1 + i) < n) ∧ Aside0 (Kd.R k30 30 wr w.heap.size (fun _ => True) v4 ((addsTo (wdSay s) (128 * b)).map toS)) ∧ Aside0 (Below w.heap.size w wr))
      case atStart => exact ⟨0, by omega, by omega, rfl, ⟨fun i hi => absurd hi (Nat.not_lt_zero i)⟩, HO2, HB2⟩
      case round =>
        obtain ⟨b, hb, hbk, rfl, hW, hO, hB⟩ := hrel
        clear HO2 HB2
        obtain ⟨gko, rfl⟩ : ∃ n, n = gk := ⟨_, rfl⟩
        by_cases hlt : b < 8704
        · have hlt' : (b : Int) < 8704 := by omega
          have HX := Aside0.mk (fun (W : World) => HTWO.out W (1 + b) (2 + 2 * (b : Int)) (by omega) (by omega))
          have hxl := HWL.out (1 + b)
          generalize hx : wd s (1 + b) = x at HX hxl
          have HXE := Aside0.mk hx
          clear hx
          go_wp2_with fail
          refine (HX.out _).mono ?_
          rintro e w3 ⟨rfl, hb3⟩
          have HB3 := Aside0.mk (hB.out.trans (hb3.mono hB.out.size))
          have HO3 := Aside0.mk (Kd.R_below hO.out hb3)
          clear hb3 hB hO HX
          go_wp2_with fail
          refine (HT0.out _).mono ?_
          rintro e w4 ⟨rfl, hb4⟩
          have HB4 := Aside0.mk (HB3.out.trans (hb4.mono HB3.out.size))
          have HO4 := Aside0.mk (Kd.R_below HO3.out hb4)
          clear hb4 HB3 HO3
          by_cases hxn : x < n
          · have hxn' : ¬ (x : Int) ≥ (n : Int) := by omega
            have hdn : decide (n ≤ x) = false := decide_eq_false (by omega)
            go_wp2_with fail
            first
              | rw [show decide ((x : Int) ≥ (n : Int)) = false from decide_eq_false (by omega)]
              | rw [show decide ((n : Int) ≤ (x : Int)) = false from decide_eq_false (by omega)]
              | rw [show (!decide ((x : Int) < (n : Int))) = false from by simp; omega]
              | skip
            clear hdn
            go_loopg [4, 7] 129 (fun kk v4 v7 wr => ∃ j : Nat, j ≤ 128 ∧ 129 - j ≤ kk ∧ v7 = .int .i64 (j : Int) ∧ Aside0 (Kd.R k30 30 wr w.heap.size (fun _ => True) v4 ((addsTo (wdSay s) (128 * b + j)).map toS)) ∧ Aside0 (Below w.heap.size w wr))
            case atStart => exact ⟨0, by omega, by omega, rfl, HO4, HB4⟩
            case round =>
              obtain ⟨j, hj, hjk, rfl, hO, hB⟩ := hrel
              clear HO4 HB4
              by_cases hj2 : j < 128
              · have hj2' : (j : Int) < 128 := by omega
                have HX := Aside0.mk (fun (W : World) => HTWO.out W (8705 + 128 * x + j) (17410 + 256 * (x : Int) + 2 * (j : Int)) (by omega) (by omega))
                have HSAY := Aside0.mk (show wd s (8705 + 128 * x + j) = wdSay s (128 * b + j) from by
                  unfold wdSay
                  rw [show (128 * b + j) / 128 = b by omega, show (128 * b + j) % 128 = j by omega, HXE.out])
                go_wp2_with fail
                refine (HX.out _).mono ?_
                rintro e w5 ⟨rfl, hb5⟩
                have HB5 := Aside0.mk (hB.out.trans (hb5.mono hB.out.size))
                have HO5 := Aside0.mk (Kd.R_below hO.out hb5)
                clear hb5 hB hO HX
                go_wp2_with fail
                refine (add_list (p := 128 * b + j) (say := wdSay s) (by omega) (by omega) (by rw [HSAY.out]) HB5.out HO5.out).mono ?_
                rintro e w6 ⟨v6, rfl, ho6, hb6⟩
                have HO6 := Aside0.mk ho6
                have HB6 := Aside0.mk hb6
                clear ho6 hb6 HB5 HO5
                go_wp2_with fail
                go_roundg (gk - 1)
                case measure => omega
                case rel => exact ⟨j + 1, by omega, by omega, by go_num, HO6, HB6⟩
              · have hj2' : ¬ (j : Int) < 128 := by omega
                obtain rfl : j = 128 := by omega
                go_wp2_with fail
                go_roundg (gko - 1)
                case measure => omega
                case rel => exact ⟨b + 1, by omega, by omega, by go_num, ⟨fun i hi => by
                  rcases Nat.lt_succ_iff_lt_or_eq.1 hi with h | rfl
                  · exact hW.out i h
                  · rw [HXE.out]; exact hxn⟩, hO, hB⟩
          · have hxn' : (x : Int) ≥ (n : Int) := by omega
            have HF := Aside0.mk (show ∀ W : World, Below w.heap.size w W → UnpDPost w s (.returned (.tuple #[.slice none 0 0, .bool false])) W from fun W hW => ⟨hW, .inr ⟨fun h => hxn (by rw [← HXE.out]; exact (HPK.out.1 h).2.1 b hlt), none, 0, 0, rfl⟩⟩)
            go_wp2_with fail
            go_ret2
            exact HF.out _ HB4.out
        · have hlt' : ¬ (b : Int) < 8704 := by omega
          obtain rfl : b = 8704 := by omega
          have hle := addsTo_least (say := wdSay s) (fun p _ => wd_le _ _) (N := 128 * 8704) (by omega)
          have HR := Aside0.mk hO.out
          obtain ⟨A, c, rfl, hc, hC⟩ := Kd.R_reads hO.out
          rw [List.length_map] at hc hC ⊢
          have HLE := Aside0.mk hle
          have HC := Aside0.mk hC
          have HCAP := Aside0.mk hc
          clear hle hO hC hc HR
          generalize addsTo (wdSay s) (128 * 8704) = l at *
          have HLS := Aside0.mk (fun (W : World) (h : Below wr.heap.size wr W) => least_calls W HLE.out.1 HLE.out.2.2.2.1 HCAP.out (Kd.C_below HC.out h))
          go_wp2_with fail
          refine (HLS.out wr (Below.refl _ _)).mono ?_
          rintro e w3 ⟨hb3, A2, c2, rfl, hc2, hC2⟩
          have HB3 := Aside0.mk (hB.out.trans (hb3.mono hB.out.size))
          have HBW := Aside0.mk hb3
          have HQ := Aside0.mk (show QIn w3 (nz (runsN [] 0 l)) A2 (nz (runsN [] 0 l)).length c2 from ⟨rfl, HLE.out.2.1, HLE.out.2.2.1, hc2, hC2⟩)
          have HPQ := Aside0.mk (packq_calls w3 HQ.out)
          clear hb3 hc2 hC2
          go_wp2_with fail
          refine HPQ.out.mono ?_
          rintro e w4 ⟨hb4, rfl⟩
          have hcg : strOfNums (packT (tabSay (sayQ (nz (runsN [] 0 l))))) = strOfNums (packT (tabSay (wdSay s))) := congrArg (fun t => strOfNums (packT t)) (tabSay_congr HLE.out.2.2.2.2)
          rw [hcg]
          have HB4 := Aside0.mk (HB3.out.trans (hb4.mono HB3.out.size))
          have HL4 := Aside0.mk (HLS.out w4 (HBW.out.trans (hb4.mono HBW.out.size)))
          have hpk2 : Packed s ↔ strOfNums (packT (tabSay (wdSay s))) = s := HPK.out.trans ⟨fun h => h.2.2, fun h => ⟨hsz, hW.out, h⟩⟩
          have HPK2 := Aside0.mk hpk2
          clear hb4 hcg hpk2 HPQ
          generalize strOfNums (packT (tabSay (wdSay s))) = s2 at *
          have HIDEM := Aside0.mk (show nz (runsN [] 0 (nz (runsN [] 0 l))) = nz (runsN [] 0 l) from (same_rows HLE.out.2.1 HLE.out.1).1 (fun p hp => Til.nz_says (Nat.le_refl _) (fun p _ => sayQ_le HLE.out.1 p) (runsN_ok HLE.out.1) p (Nat.zero_le _) hp))
          by_cases he : s2 = s
          · go_wp2_with fail
            refine HL4.out.mono ?_
            rintro e w5 ⟨hb5, A3, c3, rfl, hc3, hC3⟩
            have HF := Aside0.mk (show UnpDPost w s (.returned (.tuple #[.slice A3 (nz (runsN [] 0 l)).length c3, .bool true])) w5 from ⟨HB4.out.trans (hb5.mono HB4.out.size), .inl ⟨HPK2.out.2 he, _, A3, c3, rfl, ⟨rfl, HLE.out.2.1, HLE.out.2.2.1, hc3, hC3⟩, HIDEM.out, HLE.out.2.2.2.2⟩⟩)
            clear hb5 hc3 hC3
            go_wp2_with fail
            go_ret2
            exact HF.out
          · go_wp2_with fail
            refine HL4.out.mono ?_
            rintro e w5 ⟨hb5, A3, c3, rfl, hc3, hC3⟩
            have HF := Aside0.mk (show UnpDPost w s (.returned (.tuple #[.slice A3 (nz (runsN [] 0 l)).length c3, .bool false])) w5 from ⟨HB4.out.trans (hb5.mono HB4.out.size), .inr ⟨fun h => he (HPK2.out.1 h), A3, _, c3, rfl⟩⟩)
            clear hb5 hc3 hC3
            go_wp2_with fail
            go_ret2
            have hne2 : (s2.toList == s.toList) = false := by
              rw [beq_eq_false_iff_ne, ByteArray.toList_eq, ByteArray.toList_eq]
              exact fun h => he (str_ext' h)
            have hF := HF.out
            rw [← hne2] at hF
            exact hF
    · have hsz' : ¬ (s.size : Int) = 17410 + 256 * (n : Int) := by omega
      have HF := Aside0.mk (show ∀ W : World, Below w.heap.size w W → UnpDPost w s (.returned (.tuple #[.slice none 0 0, .bool false])) W from fun W hW => ⟨hW, .inr ⟨fun h => hsz (HPK.out.1 h).1, none, 0, 0, rfl⟩⟩)
      go_wp2_with fail
      go_ret2
      exact HF.out _ HB1.out

end Go.Proofs.Ytajmbafljncjcaa.PStageOver
