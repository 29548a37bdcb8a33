/- StageNil: the law's walk. -/
import Derived.Test.YtajmbafljncjcaaTblStageOver
import Derived.Test.YtajmbafljncjcaaNilP
namespace Go.Proofs.Ytajmbafljncjcaa.PStageOver
open Go.RowKit Go.Proofs.YtajmbafljncjcaaW.PrintWords Go.Proofs.YtajmbafljncjcaaW.PrintLast Go.Proofs.YtajmbafljncjcaaW.PrintMore Go.Proofs.Ytajmbafljncjcaa.Stage Go.Proofs.Ytajmbafljncjcaa.Mp
set_option linter.unusedVariables false
set_option linter.unusedSimpArgs false

theorem tri_toV (l : List (Nat × Nat × Nat)) : (l.map toV).map tri = l.map intR := by
  rw [List.map_map]; rfl
/-- Build of the fewest rows. -/
theorem build_nz {w : World} {base : Nat} {ok : Nat → Prop} {q : List (Nat × Nat × Nat)} (hr : RiseN 0 q) (hl : q.length ≤ 65536) {vS : Value} (hR : Kd.R k40 40 w base ok vS ((nz (runsN [] 0 q)).map toV)) :
    Calls Try.prog 18 #[vS] w (fun e w' => Below w.heap.size w w' ∧ ∃ b, e = .returned (.tuple #[.pointer (some ⟨b, 0, none⟩), .int .i64 0, .int .i64 0]) ∧ TabSays w' b (sayQ q)) := by
  obtain ⟨A, c, g, rfl, h1, h2, h3, h4, h5⟩ := rowsI_of_R hR
  have hf := nz_few q
  have hrn := Til.nz_rise (Nat.le_refl _) (fun p _ => sayQ_le hr p) (runsN_ok hr)
  have hs := fun p hp => sayQ_nz hr p hp
  refine (build_at w g c A _ h3 h4 h1 h2).mono ?_
  rw [tri_toV]
  generalize nz (runsN [] 0 q) = N at *
  rintro e w1 ⟨hb, ⟨hne, _⟩ | ⟨_, b, rfl, ht⟩⟩
  · rw [checkR_rise hrn (by omega)] at hne
    exact absurd rfl hne
  · rw [natR_intR] at ht
    refine ⟨hb, b, rfl, ?_⟩
    obtain ⟨g, c, g', c', h⟩ := ht
    exact ⟨g, c, g', c', by rw [tabSay_congr (say' := overSay N fun _ => 0) (fun p hp => by rw [← hs p hp]; rfl)]; exact h⟩

theorem str_ext {a b : ByteArray} (h : a.data.toList = b.data.toList) : a = b := by
  obtain ⟨⟨a⟩⟩ := a
  obtain ⟨⟨b⟩⟩ := b
  simp only at h
  rw [h]

set_option maxRecDepth 100000 in
set_option maxHeartbeats 1600000 in
theorem nilw_calls (w : World) (A0 : Option Addr) (c0 : Nat) (l : List S40) (hC : Kd.C k40 w A0 l.length l) (hc0 : l.length ≤ c0) (hf : Fits l) (hl : l.length ≤ 1048576)
    {A2 : Option Addr} {c2 : Nat} {zs : List Int} (hZ : Kd.C (Kd.int .i32) w A2 zs.length zs) (hzf : ∀ p ∈ zs, -2147483648 ≤ p ∧ p ≤ 2147483647) (hzl : zs.length ≤ 1048576) (n : Int) :
    Calls Try.prog 8 #[.slice A0 l.length c0, .slice A2 zs.length c2, .int .i64 n] w (Yes w) := by
  have HC := Aside0.mk hC
  have HF := Aside0.mk hf
  have HZ := Aside0.mk hZ
  have HZF := Aside0.mk hzf
  have HA := Aside0.mk (awake_calls w)
  clear hC hf hZ hzf
  go_enter Try.func8, Try.ntmps8
  go_wp2_with fail
  refine HA.out.mono ?_
  rintro e w1 ⟨rfl, hb1⟩
  have HB1 := Aside0.mk hb1
  have HS := Aside0.mk ((tbl_nil w1).stands (c2 := c2) (Kd.C_below HZ.out hb1) HZF.out hzl n)
  clear hb1 HA
  go_wp2_with fail
  refine HS.out.mono ?_
  rintro e w2 ⟨rfl, hb2⟩
  have HB2 := Aside0.mk (HB1.out.trans (hb2.mono HB1.out.size))
  have HM := Aside0.mk (same_calls w2 none none (fun _ => 0) (fun _ => 0) (.inl ⟨rfl, fun _ _ => rfl⟩) (.inl ⟨rfl, fun _ _ => rfl⟩))
  rw [show sameB (fun _ => 0) (fun _ => 0) = true from (sameB_iff _ _).2 fun _ _ => rfl] at HM
  clear hb2 HS HB1
  go_wp2_with fail
  refine HM.out.mono ?_
  rintro e w3 ⟨rfl, hb3⟩
  have HB3 := Aside0.mk (HB2.out.trans (hb3.mono HB2.out.size))
  have HBu := Aside0.mk (built2_calls w3 A0 c0 l (Kd.C_below HC.out HB3.out) hc0 HF.out hl)
  clear hb3 HM HB2
  go_wp2_with fail
  refine HBu.out.mono ?_
  rintro e w4 ⟨hb4, v, A4, n4, c4, is, rfl, hyes, hno⟩
  have HB4 := Aside0.mk (HB3.out.trans (hb4.mono HB3.out.size))
  clear hb4 HBu HB3
  cases is with
  | false =>
    clear hyes hno
    go_wp2
    go_ret
    exact ⟨rfl, HB4.out⟩
  | true =>
    obtain ⟨q, hT, hmap, hq, hck, b4, rfl⟩ := hyes rfl
    have hql : q.length ≤ 65536 := by rw [hq, natR_len]; exact (checkR_ok (by rw [hck])).2.1
    have HT4 := Aside0.mk hT
    have HR := Aside0.mk (rows_calls w4 _ _ hT.han)
    clear hyes hno hmap hq hck hT
    go_wp2_with fail
    refine HR.out.mono ?_
    rintro e w5 ⟨hb5, vS, rs, rfl, htil, hR⟩
    obtain rfl : rs = runsN [] 0 q := htil.uniq (runsN_ok HT4.out.rise)
    have HB5 := Aside0.mk (HB4.out.trans (hb5.mono HB4.out.size))
    have HT5 := Aside0.mk (HT4.out.below hb5)
    have HBd := Aside0.mk (build_nz HT5.out.rise hql hR)
    clear hb5 hR HR htil HB4 HT4
    go_wp2_with fail
    refine HBd.out.mono ?_
    rintro e w6 ⟨hb6, b6, rfl, hu⟩
    have HB6 := Aside0.mk (HB5.out.trans (hb6.mono HB5.out.size))
    have HT6 := Aside0.mk (HT5.out.below hb6)
    have HU6 := Aside0.mk hu
    have HL := Aside0.mk HT6.out.least
    have HE := Aside0.mk (show sameB (sayQ q) (fun _ => 0) = decide ((nz (runsN [] 0 q)).length = 0) from by
      rw [Bool.eq_iff_iff, sameB_iff, decide_eq_true_iff, List.length_eq_zero_iff]
      exact same_rows (q2 := []) HT6.out.rise trivial)
    have HPI := Aside0.mk (show strOfNums (packT (tabSay (sayQ q))) = strOfNums (packT (tabSay (fun _ => 0))) ↔ sameB (sayQ q) (fun _ => 0) = true from by
      rw [sameB_iff]
      exact pack_iff (fun p _ => sayQ_le HT6.out.rise p) (fun p _ => Nat.zero_le _))
    clear hb6 hu HBd HB5 HT5
    generalize (nz (runsN [] 0 q)).length = N at HL HE
    go_wp2_with fail
    refine HL.out.mono ?_
    rintro e w7 ⟨hb7, A7, c7, rfl, _⟩
    have HB7 := Aside0.mk (HB6.out.trans (hb7.mono HB6.out.size))
    have HT7 := Aside0.mk (HT6.out.below hb7)
    have HU7 := Aside0.mk (HU6.out.below hb7)
    clear hb7 HL HB6 HT6 HU6
    have hNe : ((N : Int) == 0) = decide (N = 0) := by rw [Bool.eq_iff_iff, beq_iff_eq, decide_eq_true_iff]; omega
    have hM1 := same_calls w7 _ (some ⟨b6, 0, none⟩) (sayQ q) (sayQ q) HT7.out.han (.inr ⟨b6, rfl, HU7.out⟩)
    rw [show sameB (sayQ q) (sayQ q) = true from (sameB_iff _ _).2 fun _ _ => rfl] at hM1
    have HM1 := Aside0.mk hM1
    clear hM1
    generalize decide (N = 0) = empty at hNe HE
    rw [HE.out] at HPI
    go_wp2_with fail
    refine HM1.out.mono ?_
    rintro e w8 ⟨rfl, hb8⟩
    have HB8 := Aside0.mk (HB7.out.trans (hb8.mono HB7.out.size))
    have HT8 := Aside0.mk (HT7.out.below hb8)
    have HU8 := Aside0.mk (HU7.out.below hb8)
    have HP1 := Aside0.mk (pack_calls w8 _ (sayQ q) HT8.out.han)
    clear hb8 HM1 HB7 HT7 HU7
    go_wp2_with fail
    refine HP1.out.mono ?_
    rintro e w9 ⟨hb9, rfl⟩
    have HB9 := Aside0.mk (HB8.out.trans (hb9.mono HB8.out.size))
    have HT9 := Aside0.mk (HT8.out.below hb9)
    have HU9 := Aside0.mk (HU8.out.below hb9)
    have HP2 := Aside0.mk (pack_calls w9 (some ⟨b6, 0, none⟩) (sayQ q) (.inr ⟨b6, rfl, HU9.out⟩))
    clear hb9 HP1 HB8 HT8 HU8
    have HPS := Aside0.mk (show ∀ W say v, Han W v say → Calls Try.prog 33 #[.pointer v] W (fun e w' => Below W.heap.size W w' ∧ e = .returned (.string (strOfNums (packT (tabSay say))))) from fun W say v h => pack_calls W v say h)
    have HP2' := Aside0.mk (show Calls Try.prog 33 #[.pointer (some ⟨b6, 0, none⟩)] w9 (fun e w' => Below w9.heap.size w9 w' ∧ e = .returned (.string (strOfNums (packT (tabSay (sayQ q)))))) from HP2.out)
    have hp3 := fun W h => HPS.out W (sayQ q) (some ⟨b4, 0, none⟩) h
    have hp4 := fun W => HPS.out W (fun _ => 0) none (.inl ⟨rfl, fun _ _ => rfl⟩)
    generalize strOfNums (packT (tabSay (sayQ q))) = s1 at *
    generalize strOfNums (packT (tabSay (fun _ => 0))) = s2 at *
    have HP3 := Aside0.mk hp3
    have HP4 := Aside0.mk hp4
    clear hp3 hp4 HPS HP2
    go_wp2_with fail
    refine HP2'.out.mono ?_
    rintro e w10 ⟨hb10, rfl⟩
    have HB10 := Aside0.mk (HB9.out.trans (hb10.mono HB9.out.size))
    have HT10 := Aside0.mk (HT9.out.below hb10)
    clear hb10 HP2' HB9 HT9 HU9
    have hM2 := same_calls w10 _ none (sayQ q) (fun _ => 0) HT10.out.han (.inl ⟨rfl, fun _ _ => rfl⟩)
    rw [HE.out] at hM2
    have HM2 := Aside0.mk hM2
    clear hM2
    go_wp2_with fail
    refine HM2.out.mono ?_
    rintro e w11 ⟨rfl, hb11⟩
    have HB11 := Aside0.mk (HB10.out.trans (hb11.mono HB10.out.size))
    have HT11 := Aside0.mk (HT10.out.below hb11)
    have HP3' := Aside0.mk (HP3.out w11 HT11.out.han)
    clear hb11 HM2 HB10 HT10 HP3
    have hee : (empty == empty) = true := beq_self_eq_true empty
    go_wp2_with fail
    refine HP3'.out.mono ?_
    rintro e w12 ⟨hb12, rfl⟩
    have HB12 := Aside0.mk (HB11.out.trans (hb12.mono HB11.out.size))
    have HP4' := Aside0.mk (HP4.out w12)
    clear hb12 HP3' HB11 HT11 HP4
    go_wp2_with fail
    refine HP4'.out.mono ?_
    rintro e w13 ⟨hb13, rfl⟩
    have HB13 := Aside0.mk (HB12.out.trans (hb13.mono HB12.out.size))
    clear hb13 HP4' HB12
    have hse : (s1.toList == s2.toList) = empty := by
      rw [Bool.eq_iff_iff, beq_iff_eq, ByteArray.toList_eq, ByteArray.toList_eq, ← HPI.out]
      exact ⟨fun h => str_ext h, fun h => by rw [h]⟩
    go_wp2
    go_ret
    exact ⟨by simp, HB13.out⟩

end Go.Proofs.Ytajmbafljncjcaa.PStageOver
