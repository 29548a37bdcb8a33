/- StagePacks: the law's walk. -/
import Derived.Test.YtajmbafljncjcaaPackDStageOver
import Derived.Test.YtajmbafljncjcaaPackInv
import Derived.Test.YtajmbafljncjcaaSame
namespace Go.Proofs.Ytajmbafljncjcaa.PStageOver
open Go.RowKit Go.Proofs.YtajmbafljncjcaaW.PrintWords Go.Proofs.YtajmbafljncjcaaW.PrintLast Go.Proofs.YtajmbafljncjcaaW.PrintMore Go.Proofs.Ytajmbafljncjcaa.Stage Go.Proofs.Ytajmbafljncjcaa.Mp
set_option linter.unusedVariables false
set_option linter.unusedSimpArgs false

theorem packT_size (say : Nat → Nat) : (strOfNums (packT (tabSay say))).size ≤ 3000000 := by
  obtain ⟨a1, a2, a3, _⟩ := tabSay_ok say
  have : (strOfNums (packT (tabSay say))).size = (packT (tabSay say)).length := by simp [strOfNums, ByteArray.size]
  rw [this]
  generalize tabSay say = t at *
  unfold packT
  rw [List.length_append, List.length_append, flat_two, twoB_len, flat_blocks_len _ a2, a1]
  omega

set_option maxRecDepth 100000 in
set_option maxHeartbeats 1600000 in
theorem packsw_calls (w : World) (A0 : Option Addr) (c0 : Nat) (l : List S40) (hC : Kd.C k40 w A0 l.length l) (hc0 : l.length ≤ c0) (hf : Fits l) (hl : l.length ≤ 1048576)
    {A2 : Option Addr} {c2 : Nat} {zs : List Int} (hZ : Kd.C (Kd.int .i32) w A2 zs.length zs) (hzf : ∀ p ∈ zs, -2147483648 ≤ p ∧ p ≤ 2147483647) (hzl : zs.length ≤ 1048576) :
    Calls Try.prog 10 #[.slice A0 l.length c0, .slice A2 zs.length c2] w (Yes w) := by
  have HBu := Aside0.mk (built2_calls w A0 c0 l hC hc0 hf hl)
  have HZ := Aside0.mk hZ
  have HZF := Aside0.mk hzf
  clear hC hf hZ hzf
  go_enter Try.func10, Try.ntmps10
  go_wp2_with fail
  refine HBu.out.mono ?_
  intro e w1 hbu
  obtain ⟨hb1, v, A4, n4, c4, is, rfl, q, A, n, c, hT, hrow⟩ := hbu.rows
  have HB1 := Aside0.mk hb1
  have HA := Aside0.mk (awake_calls w1)
  have HT := Aside0.mk hT
  have HROW := Aside0.mk hrow
  clear hbu hb1 hT hrow HBu
  go_wp2_with fail
  refine HA.out.mono ?_
  rintro e w2 ⟨rfl, hb2⟩
  have HB2 := Aside0.mk (HB1.out.trans (hb2.mono HB1.out.size))
  have HT2 := Aside0.mk (HT.out.below hb2)
  have HPD := Aside0.mk (show Calls Try.prog 30 #[.slice A n c] w2 (fun e w' => Below w2.heap.size w2 w' ∧ e = .returned (.tuple #[.string (strOfNums (packT (tabSay (sayQ q)))), .int .i64 ((tabSay (sayQ q)).unlike.length : Nat)])) from packd_calls w2 HT2.out)
  have HPK := Aside0.mk (show ∀ (W : World) (v : Option Addr), Han W v (sayQ q) → Calls Try.prog 33 #[.pointer v] W (fun e w' => Below W.heap.size W w' ∧ e = .returned (.string (strOfNums (packT (tabSay (sayQ q)))))) from fun W v h => pack_calls W v _ h)
  have HBK := Aside0.mk (show ∀ (W : World) (v : Option Addr), Han W v (sayQ q) → Calls Try.prog 38 #[.pointer v] W (fun e w' => Below W.heap.size W w' ∧ e = .returned (.int .i64 ((tabSay (sayQ q)).unlike.length : Nat))) from fun W v h => blocks_calls W v _ h)
  obtain ⟨hpk, hps⟩ := packed_of (say := sayQ q) (fun p _ => sayQ_le HT2.out.rise p)
  have hsz := packT_size (sayQ q)
  have HPKD := Aside0.mk hpk
  have HPS := Aside0.mk hps
  have HUN := Aside0.mk (fun (W : World) => unpack_calls W (strOfNums (packT (tabSay (sayQ q)))) (by omega))
  clear hb2 HB1 HT HA hpk hps hsz
  generalize strOfNums (packT (tabSay (sayQ q))) = s1 at *
  generalize (tabSay (sayQ q)).unlike.length = L at *
  have hrow := HROW.out
  clear HROW
  rcases hrow with ⟨rfl, rfl, rfl, rfl⟩ | ⟨rfl, rfl, rfl, rfl, rfl⟩
  all_goals
    go_wp2_with fail
    refine HPD.out.mono ?_
    rintro e w3 ⟨hb3, rfl⟩
    have HB3 := Aside0.mk (HB2.out.trans (hb3.mono HB2.out.size))
    have HT3 := Aside0.mk (HT2.out.below hb3)
    have HP3 := Aside0.mk (HPK.out w3 _ HT3.out.han)
    clear hb3 HPD HB2 HT2
    go_wp2_with fail
    refine HP3.out.mono ?_
    rintro e w4 ⟨hb4, rfl⟩
    have HB4 := Aside0.mk (HB3.out.trans (hb4.mono HB3.out.size))
    have HT4 := Aside0.mk (HT3.out.below hb4)
    have HK4 := Aside0.mk (HBK.out w4 _ HT4.out.han)
    clear hb4 HP3 HB3 HT3
    go_wp2_with fail
    refine HK4.out.mono ?_
    rintro e w5 ⟨hb5, rfl⟩
    have HB5 := Aside0.mk (HB4.out.trans (hb5.mono HB4.out.size))
    have HT5 := Aside0.mk (HT4.out.below hb5)
    have HU5 := Aside0.mk (HUN.out w5)
    clear hb5 HK4 HB4 HT4 HBK
    go_wp2_with fail
    refine HU5.out.mono ?_
    rintro e w6 ⟨hb6, hcase⟩
    have HB6 := Aside0.mk (HB5.out.trans (hb6.mono HB5.out.size))
    have HT6 := Aside0.mk (HT5.out.below hb6)
    clear hb6 HU5 HB5 HT5 HUN
    rcases hcase with ⟨_, b, rfl, hu⟩ | ⟨hno, _⟩
    rotate_left
    · exact absurd HPKD.out hno
    have HU6 := Aside0.mk (show TabSays w6 b (sayQ q) from by
      obtain ⟨g, cc, g', cc', h⟩ := hu
      exact ⟨g, cc, g', cc', by rw [← tabSay_congr HPS.out]; exact h⟩)
    have HTU := Aside0.mk (fun (W : World) (hW : Below w6.heap.size w6 W) => (show Tbl W (some ⟨b, 0, none⟩) q _ _ _ from ⟨(HT6.out.below hW).len, .inr ⟨b, rfl, HU6.out.below hW⟩, HT6.out.rise, HT6.out.few, HT6.out.cap, (HT6.out.below hW).mem⟩))
    have HS6 := Aside0.mk ((HTU.out w6 (Below.refl _ _)).stands (c2 := c2) (Kd.C_below HZ.out HB6.out) HZF.out hzl 0)
    clear hu HTU
    go_wp2_with fail
    refine HS6.out.mono ?_
    rintro e w7 ⟨rfl, hb7⟩
    have HB7 := Aside0.mk (HB6.out.trans (hb7.mono HB6.out.size))
    have HT7 := Aside0.mk (HT6.out.below hb7)
    have HU7 := Aside0.mk (HU6.out.below hb7)
    have hm := same_calls w7 _ (some ⟨b, 0, none⟩) (sayQ q) (sayQ q) HT7.out.han (.inr ⟨b, rfl, HU7.out⟩)
    rw [show sameB (sayQ q) (sayQ q) = true from (sameB_iff _ _).2 fun _ _ => rfl] at hm
    have HM := Aside0.mk hm
    clear hb7 hm HS6 HB6 HT6 HU6
    go_wp2_with fail
    refine HM.out.mono ?_
    rintro e w8 ⟨rfl, hb8⟩
    have HB8 := Aside0.mk (HB7.out.trans (hb8.mono HB7.out.size))
    have HP8 := Aside0.mk (HPK.out w8 (some ⟨b, 0, none⟩) (.inr ⟨b, rfl, HU7.out.below hb8⟩))
    clear hb8 HM HB7 HT7 HU7
    go_wp2_with fail
    refine HP8.out.mono ?_
    rintro e w9 ⟨hb9, rfl⟩
    have HB9 := Aside0.mk (HB8.out.trans (hb9.mono HB8.out.size))
    clear hb9 HP8 HB8
    go_wp2
    go_ret
    exact ⟨by simp, HB9.out⟩

end Go.Proofs.Ytajmbafljncjcaa.PStageOver
