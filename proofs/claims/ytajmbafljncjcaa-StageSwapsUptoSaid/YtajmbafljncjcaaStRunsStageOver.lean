/- stage.Runs: the stretches of one number from a code point to another one. -/
import Derived.Test.YtajmbafljncjcaaSwapDStageOver
namespace Go.Proofs.Ytajmbafljncjcaa.PStageOver
open Go.RowKit Go.Proofs.YtajmbafljncjcaaW.PrintWords Go.Proofs.YtajmbafljncjcaaW.PrintLast Go.Proofs.YtajmbafljncjcaaW.PrintMore Go.Proofs.Ytajmbafljncjcaa.Stage Go.Proofs.Ytajmbafljncjcaa.Mp
set_option linter.unusedVariables false
set_option linter.unusedSimpArgs false

def StRunsPost (w : World) (say : Nat → Nat) (a b : Int) (e : Ending) (w' : World) : Prop := Below w.heap.size w w' ∧
  (((a < 0 ∨ b < a ∨ 1114111 < b) ∧ e = .returned (.slice none 0 0)) ∨ ((0 ≤ a ∧ a ≤ b ∧ b ≤ 1114111) ∧ ∃ rs A c, Til say (b.toNat + 1) a.toNat rs ∧ e = .returned (.slice A rs.length c) ∧ rs.length ≤ c ∧ Kd.C k40 w' A rs.length (rs.map toV)))

theorem struns_bad (w : World) (v : Option Addr) (say : Nat → Nat) (a b : Int) (hbad : a < 0 ∨ b < a ∨ 1114111 < b) :
    Calls Try.prog 36 #[.pointer v, .int .i32 a, .int .i32 b] w (StRunsPost w say a b) := by
  have HF := Aside0.mk (show StRunsPost w say a b (.returned (.slice none 0 0)) w from ⟨Below.refl _ _, .inl ⟨hbad, rfl⟩⟩)
  by_cases h1 : a < 0
  · clear hbad
    go_enter Try.func36, Try.ntmps36
    go_wp2
    go_ret
    exact HF.out
  · by_cases h2 : b < a
    · clear hbad
      go_enter Try.func36, Try.ntmps36
      go_wp2
      go_ret
      exact HF.out
    · have h3 : 1114111 < b := by omega
      clear hbad
      go_enter Try.func36, Try.ntmps36
      go_wp2
      go_ret
      exact HF.out

set_option maxRecDepth 100000 in
set_option maxHeartbeats 1600000 in
theorem struns_good (w : World) (v : Option Addr) (say : Nat → Nat) (hh : Han w v say) (a b : Nat) (hab : a ≤ b) (hb : b ≤ 1114111) :
    Calls Try.prog 36 #[.pointer v, .int .i32 (a : Int), .int .i32 (b : Int)] w (StRunsPost w say (a : Int) (b : Int)) := by
  have hli : ∀ p : Nat, p ≤ 1114111 → lookI say (p : Int) = ((say p : Nat) : Int) := fun p hp => by unfold lookI; rw [if_pos (by omega), Int.toNat_natCast]
  have hlk : ∀ (W : World) (p : Nat), Below w.heap.size w W → p ≤ 1114111 → Calls Try.prog 17 #[.pointer v, .int .i32 (p : Int)] W fun e W' => e = .returned (.int .i64 ((say p : Nat) : Int)) ∧ ∃ n, W' = W.drewN n := fun W p hW hp => by
    have := look_calls W v say (hh.below hW) (p : Int)
    unfold LookPost at this
    rwa [hli p hp] at this
  have HLK := Aside0.mk hlk
  have HL0 := Aside0.mk (hlk w a (Below.refl _ _) (by omega))
  have infoV' := infoV
  have hb0 : ¬ (a : Int) < 0 := by omega
  have hb1 : ¬ (b : Int) < (a : Int) := by omega
  have hb2 : ¬ (1114111 : Int) < (b : Int) := by omega
  clear hh hli hlk
  go_enter Try.func36, Try.ntmps36
  go_wp2_with fail
  refine HL0.out.mono ?_
  rintro e w1 ⟨rfl, n, rfl⟩
  have HX := Aside0.mk (rfl : say a = say a)
  generalize hsa : say a = y0
  have HSA := Aside0.mk hsa
  clear HL0 HX hsa
  go_wp2_with (first | ((with_reducible refine gate_dst (N := 28) rfl ?_); refine Kd.R_lit k40 _ 40 ?hg (N := 28) ?hd (xs := ([⟨(a : Int), (a : Int), (y0 : Int)⟩] : List S40)) (inner := [.int .i32 (a : Int), .int .i32 (a : Int), .int .i64 (y0 : Int)]) (ok := fun _ => True) (okp := fun _ => True) ?hr ?hp (fun _ hk => hk) trivial (Below.refl _ _) (Nat.le_refl _) (by simp) ?_; (case hd => rfl); (case hg => rfl); (case hr => first | (go_simp; done) | (go_simp; rfl)); (case hp => exact (Reps.none _ _ |>.snoc (p := (⟨(a : Int), (a : Int), (y0 : Int)⟩ : S40)) (k40_mkM _ _ _ _) rfl)); intro v1 w1 ho1 hb1 hg1 hn1; clear hg1 hn1; have HO1 := Aside0.mk (show Kd.R k40 40 w1 w.heap.size (fun _ => True) v1 ((([] : List (Nat × Nat × Nat)) ++ [(a, a, y0)]).map toV) from ho1); have HB1 := Aside0.mk (show Below w.heap.size w w1 from ⟨hb1.os, hb1.tape, hb1.output, hb1.size, hb1.block⟩); clear ho1 hb1))
  have HT1 := Aside0.mk (show Til say (a + 1) a (([] : List (Nat × Nat × Nat)) ++ [(a, a, y0)]) from ⟨rfl, Nat.le_refl _, fun p ha hb => by rw [show p = a by simp only at hb; omega]; exact HSA.out, (fun z hz => by cases hz), rfl⟩)
  go_loopg [7, 8] (b + 2 - a) (fun k v7 v8 wr => ∃ p : Nat, a + 1 ≤ p ∧ p ≤ b + 1 ∧ b + 2 - p ≤ k ∧ v8 = .int .i32 (p : Int) ∧ Aside0 (∃ l y, Til say p a (l ++ [y]) ∧ Kd.R k40 40 wr w.heap.size (fun _ => True) v7 ((l ++ [y]).map toV)) ∧ Aside0 (Below w.heap.size w wr))
  case atStart => exact ⟨a + 1, by omega, by omega, by omega, by go_num, ⟨[], (a, a, y0), HT1.out, HO1.out⟩, HB1⟩
  case round =>
    obtain ⟨p, hp1, hp2, hpk, rfl, hO, hB⟩ := hrel
    clear HO1 HB1 HT1
    by_cases hlt : p ≤ b
    · have hlt' : (p : Int) ≤ (b : Int) := by omega
      obtain ⟨l, y, hT, hR⟩ := hO.out
      have hll := hT.length
      rw [List.length_append, List.length_singleton] at hll
      have HLp := Aside0.mk (HLK.out wr p hB.out (by omega))
      have hlen : ((l ++ [y]).map toV).length = l.length + 1 := by rw [List.length_map, List.length_append]; rfl
      obtain ⟨A, c, rfl⟩ := Kd.R_slice hR
      rw [hlen] at hR ⊢
      obtain ⟨g, cells, rfl, _, _⟩ := R_head hR (by rw [hlen]; omega)
      have hrd : rd_T40 ((l ++ [y]).map toV) ((l.length : Nat) : Int) = toV y := by
        simp [rd_T40, List.getD_eq_getElem?_getD, List.getElem?_map]
      have HR := Aside0.mk hR
      have HRD := Aside0.mk hrd
      have HLEN := Aside0.mk hlen
      have HADD := Aside0.mk (fun (x2 : Nat) (hx : say p = x2) => Til.add (x := (p, p, x2)) (l := l ++ [y]) rfl (Nat.le_refl _) (fun z h1 h2 => by rw [show z = p by simp only at h2; omega]; exact hx) hT)
      generalize hsp : say p = n at HLp
      have HSP := Aside0.mk hsp
      obtain ⟨y1, y2, y3⟩ := y
      clear hT hR hO hlen hrd hsp
      generalize hm : l.length = m at *
      have HM := Aside0.mk hm
      clear hm
      go_wp2_with fail
      refine HLp.out.mono ?_
      rintro e w2 ⟨rfl, k, rfl⟩
      have HR2 := Aside0.mk (Kd.R_drewN HR.out k)
      have HB2 := Aside0.mk (pw_below_drewN hB.out k)
      clear HLp HR hB
      have HBw := Aside0.mk (rfl : w.heap.size = w.heap.size)
      generalize wr.drewN k = w2 at *
      obtain ⟨hn, c0, c1, c2⟩ := R_cellsV HR2.out m (by rw [HLEN.out]; omega)
      rw [HRD.out] at c2
      have c2' : w2.cell? ⟨g, m * 3 + 2, none⟩ = some (.int .i64 (y3 : Int)) := c2
      clear hn c0 c1 c2 HBw
      by_cases he : y3 = n
      · have he' : ((y3 : Int) == (n : Int)) = true := by rw [beq_iff_eq]; omega
        have hadd := HADD.out n HSP.out
        rw [addN_snoc, if_pos he] at hadd
        have HADD2 := Aside0.mk hadd
        clear hadd HADD he
        go_wp2_with (first | ((with_reducible refine gate_store (t := 21) (p := 53) rfl ?_); refine store_VT (w0 := w) w.heap.size rfl rfl (.tmp 53) (.tmp 51) rfl m ((l ++ [(y1, y2, y3)]).map toV) (p : Int) rfl rfl HR2.out (by rw [HLEN.out]; omega) HB2.out ?_; intro w5 ho5 hb5 hg5; have HO5 := Aside0.mk ho5; have HB5 := Aside0.mk hb5; clear ho5 hb5 hg5))
        have HO6 := Aside0.mk (show Kd.R k40 40 w5 w.heap.size (fun _ => True) (.slice (some ⟨g, 0, none⟩) (m + 1) c) ((l ++ [(y1, p, y3)]).map toV) from by
          have h := HO5.out
          rw [HRD.out, List.map_append, ← HM.out] at h
          rw [List.map_append, ← HM.out]
          simpa [List.set_append, toV] using h)
        go_roundg (gk - 1)
        case measure => omega
        case rel => exact ⟨p + 1, by omega, by omega, by omega, by go_num, ⟨l, (y1, p, y3), HADD2.out, HO6.out⟩, HB5⟩
      · have he' : ((y3 : Int) == (n : Int)) = false := by rw [beq_eq_false_iff_ne]; omega
        have hadd := HADD.out n HSP.out
        rw [addN_snoc, if_neg he] at hadd
        have HADD2 := Aside0.mk hadd
        clear hadd HADD
        have HE := Aside0.mk (show ((l ++ [(y1, y2, y3)]) ++ [(p, p, n)]).map toV = (l ++ [(y1, y2, y3)]).map toV ++ [toV (p, p, n)] from List.map_append ..)
        have HADD3 := Aside0.mk (show Til say (p + 1) a ((l ++ [(y1, y2, y3)]) ++ [(p, p, n)]) from by rw [List.append_assoc]; exact HADD2.out)
        have hxl : ((l ++ [(y1, y2, y3)]).map toV).length ≤ 1114112 := by rw [HLEN.out]; omega
        generalize (l ++ [(y1, y2, y3)]).map toV = xs at HR2 HE hxl
        clear HLEN HRD HADD2
        go_wp2_with (first | ((with_reducible refine gate_builtin (b := .append) (xs := #[.tmp 54, .tmp 59]) rfl ?_); at_builtin; refine Kd.R_append k40 (w0 := w) w.heap.size rfl (.tmp 54) (.tmp 59) 22 40 (.agg #[.int .i32 0, .int .i32 0, .int .i64 0]) 16 rfl Try.underlying22 infoV' rfl (by decide) (by omega) _ xs (toV (p, p, n)) [.int .i32 (p : Int), .int .i32 (p : Int), .int .i64 (n : Int)] (fun _ => True) (fun _ => False) rfl (by first | (go_simp; done) | (go_simp; rfl)) (k40_mkM _ _ _ (toV (p, p, n))) (fun _ hk => hk.elim) (fun _ _ => trivial) HR2.out HB2.out HB2.out.size (by omega) ?_; intro v5 w5 ho5 hb5 hg5 hat5; have HO5 := Aside0.mk ho5; have HB5 := Aside0.mk hb5; clear ho5 hb5 hg5 hat5))
        go_roundg (gk - 1)
        case measure => omega
        case rel => exact ⟨p + 1, by omega, by omega, by omega, by go_num, ⟨l ++ [(y1, y2, y3)], (p, p, n), HADD3.out, by rw [HE.out]; exact HO5.out⟩, HB5⟩
    · have hlt' : ¬ (p : Int) ≤ (b : Int) := by omega
      obtain rfl : p = b + 1 := by omega
      obtain ⟨l, y, hT, hR⟩ := hO.out
      obtain ⟨A, c, rfl, hc, hC⟩ := Kd.R_reads hR
      rw [List.length_map] at hc hC ⊢
      have HF := Aside0.mk (show StRunsPost w say (a : Int) (b : Int) (.returned (.slice A (l ++ [y]).length c)) wr from ⟨hB.out, .inr ⟨⟨by omega, by omega, by omega⟩, l ++ [y], A, c, by rw [Int.toNat_natCast, Int.toNat_natCast]; exact hT, rfl, hc, hC⟩⟩)
      clear hT hR hc hC hO hB
      generalize (l ++ [y]).length = NL at *
      go_wp2
      go_ret
      exact HF.out

theorem struns_calls (w : World) (v : Option Addr) (say : Nat → Nat) (hh : Han w v say) (a b : Int) : Calls Try.prog 36 #[.pointer v, .int .i32 a, .int .i32 b] w (StRunsPost w say a b) := by
  by_cases h : a < 0 ∨ b < a ∨ 1114111 < b
  · exact struns_bad w v say a b h
  · obtain ⟨x, rfl⟩ := Int.eq_ofNat_of_zero_le (show 0 ≤ a by omega)
    obtain ⟨y, rfl⟩ := Int.eq_ofNat_of_zero_le (show 0 ≤ b by omega)
    exact struns_good w v say hh x y (by omega) (by omega)

end Go.Proofs.Ytajmbafljncjcaa.PStageOver
