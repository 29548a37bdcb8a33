/- StageBuilds: the law's walk. -/
import Derived.Test.YtajmbafljncjcaaStandsStageOver
namespace Go.Proofs.Ytajmbafljncjcaa.PStageOver
open Go.RowKit Go.Proofs.YtajmbafljncjcaaW.PrintWords Go.Proofs.YtajmbafljncjcaaW.PrintLast Go.Proofs.YtajmbafljncjcaaW.PrintMore Go.Proofs.Ytajmbafljncjcaa.Stage Go.Proofs.Ytajmbafljncjcaa.Mp
set_option linter.unusedVariables false
set_option linter.unusedSimpArgs false

set_option maxRecDepth 100000 in
set_option maxHeartbeats 1600000 in
theorem builds_calls (w : World) (A0 : Option Addr) (c0 : Nat) (l : List S40) (hC : Kd.C k40 w A0 l.length l) (hc0 : l.length ≤ c0) (hf : Fits l) (hl : l.length ≤ 1048576)
    {A2 : Option Addr} {c2 : Nat} {zs : List Int} (hZ : Kd.C (Kd.int .i32) w A2 zs.length zs) (hzf : ∀ p ∈ zs, -2147483648 ≤ p ∧ p ≤ 2147483647) (hzl : zs.length ≤ 1048576) (n : Int) :
    Calls Try.prog 5 #[.slice A0 l.length c0, .slice A2 zs.length c2, .int .i64 n] w (Yes w) := by
  have HBu := Aside0.mk (built_calls w A0 c0 l hC hc0 hf hl)
  have HZ := Aside0.mk hZ
  have HZF := Aside0.mk hzf
  clear hC hf hZ hzf
  go_enter Try.func5, Try.ntmps5
  go_wp2_with fail
  refine HBu.out.mono ?_
  rintro e w1 ⟨hb1, v, vr, rfl, hR, hyes, hno⟩
  obtain ⟨A4, c4, rfl, hl4, hC4⟩ := Kd.R_reads hR
  have HB1 := Aside0.mk hb1
  have HA := Aside0.mk (awake_calls w1)
  by_cases he : (checkR (l.map tri)).2 = 0
  · obtain ⟨b, rfl, ht⟩ := hyes he
    obtain ⟨_, hlen, hrise, hpos⟩ := checkR_ok he
    rw [natR_tri hpos] at hC4 hl4 ⊢
    have hnl : (natR (l.map tri)).length ≤ 65536 := by rw [natR_len]; exact hlen
    generalize natR (l.map tri) = q at ht hrise hC4 hnl hl4
    rw [List.length_map] at hC4 hl4 ⊢
    rw [decide_eq_true he]
    have HT := Aside0.mk (show Han w1 (some ⟨b, 0, none⟩) (sayQ q) from .inr ⟨b, rfl, ht⟩)
    have HC4 := Aside0.mk hC4
    have HRI := Aside0.mk hrise
    clear hyes hno hb1 hR ht hpos he HBu hC4 hrise
    go_wp2_with fail
    refine HA.out.mono ?_
    rintro e w2 ⟨rfl, hb2⟩
    have HB2 := Aside0.mk (HB1.out.trans (hb2.mono HB1.out.size))
    have HS := Aside0.mk (stands_calls (HT.out.below hb2) HRI.out (by omega) hl4 (Kd.C_below HC4.out hb2) (c2 := c2) (Kd.C_below HZ.out HB2.out) HZF.out hzl n)
    clear hb2
    go_wp2_with fail
    refine HS.out.mono ?_
    rintro e w3 ⟨rfl, hb3⟩
    have HB3 := Aside0.mk (HB2.out.trans (hb3.mono HB2.out.size))
    clear hb3
    go_wp2
    go_ret
    exact ⟨rfl, HB3.out⟩
  · obtain rfl := hno he
    rw [decide_eq_false he]
    clear hyes hno hb1 hR hC4 hl4 HBu
    go_wp2_with fail
    refine HA.out.mono ?_
    rintro e w2 ⟨rfl, hb2⟩
    have HB2 := Aside0.mk (HB1.out.trans (hb2.mono HB1.out.size))
    clear hb2
    go_wp2
    go_ret
    exact ⟨rfl, HB2.out⟩

end Go.Proofs.Ytajmbafljncjcaa.PStageOver
