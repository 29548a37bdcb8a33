/- The document's Numbers: its walk, by hand. -/
import Derived.Test.YtajmbafljncjcaaRunsDStageOver
import Derived.Test.YtajmbafljncjcaaSrtIStageOver
import Derived.Test.YtajmbafljncjcaaWTab
import Derived.BigQuiet
import Derived.Deep.DeepCutAuto
namespace Go.Proofs.Ytajmbafljncjcaa.PStageOver
open Go.RowKit Go.Proofs.YtajmbafljncjcaaW.PrintWords Go.Proofs.YtajmbafljncjcaaW.PrintLast Go.Proofs.YtajmbafljncjcaaW.PrintMore Go.Proofs.Ytajmbafljncjcaa.Stage Go.Proofs.Ytajmbafljncjcaa.Mp
set_option linter.unusedVariables false
set_option linter.unusedSimpArgs false

def insN (x : Nat) : List Nat → List Nat
  | [] => [x]
  | y :: l => if y < x then y :: insN x l else if y = x then y :: l else x :: y :: l
def idxN (x : Nat) : List Nat → Nat
  | [] => 0
  | y :: l => if y < x then idxN x l + 1 else 0
theorem idxN_le (x : Nat) : ∀ l : List Nat, idxN x l ≤ l.length
  | [] => Nat.le_refl _
  | y :: l => by
    have := idxN_le x l
    simp only [idxN, List.length_cons]
    split <;> omega
theorem idxN_lt (x : Nat) : ∀ (l : List Nat) (t : Nat), t < idxN x l → l.getD t 0 < x
  | [], t, h => by simp [idxN] at h
  | y :: l, t, h => by
    simp only [idxN] at h
    split at h
    · cases t with
      | zero => simpa
      | succ t => simpa using idxN_lt x l t (by omega)
    · omega
theorem idxN_stop (x : Nat) : ∀ l : List Nat, idxN x l < l.length → x ≤ l.getD (idxN x l) 0
  | [], h => by simp at h
  | y :: l, h => by
    simp only [idxN, List.length_cons] at h ⊢
    split
    · rename_i hy
      rw [if_pos hy] at h
      simpa using idxN_stop x l (by omega)
    · simp only [List.getD_cons_zero]; omega
theorem insN_same (x : Nat) : ∀ l : List Nat, idxN x l < l.length → l.getD (idxN x l) 0 = x → insN x l = l
  | [], h, _ => by simp at h
  | y :: l, h, e => by
    simp only [idxN, List.length_cons, insN] at h e ⊢
    by_cases hy : y < x
    · rw [if_pos hy] at h e ⊢
      rw [insN_same x l (by omega) (by simpa using e)]
    · rw [if_neg hy] at h e ⊢
      rw [if_pos (by simpa using e)]
theorem insN_new (x : Nat) : ∀ l : List Nat, ¬ (idxN x l < l.length ∧ l.getD (idxN x l) 0 = x) → insN x l = l.take (idxN x l) ++ [x] ++ l.drop (idxN x l)
  | [], _ => rfl
  | y :: l, h => by
    simp only [idxN, List.length_cons, insN] at h ⊢
    by_cases hy : y < x
    · rw [if_pos hy] at h ⊢
      rw [insN_new x l (fun hh => h ⟨by omega, by simpa using hh.2⟩), if_pos hy]
      simp
    · rw [if_neg hy] at h ⊢
      rw [if_neg (fun e => h ⟨by omega, by simpa using e⟩), if_neg hy]
      simp
theorem insN_len (x : Nat) : ∀ l : List Nat, (insN x l).length ≤ l.length + 1
  | [] => Nat.le_refl _
  | y :: l => by
    have := insN_len x l
    simp only [insN]
    split
    · simp only [List.length_cons]; omega
    · split <;> simp
def numsT (R : List (Nat × Nat × Nat)) : List Nat := R.foldl (fun o x => insN x.2.2 o) []
theorem numsT_step {R : List (Nat × Nat × Nat)} (i : Nat) (h : i < R.length) : numsT (R.take (i + 1)) = insN (R.getD i z3).2.2 (numsT (R.take i)) := by
  unfold numsT
  rw [take_q R i h, List.foldl_append]
  rfl
theorem numsT_len' : ∀ (R : List (Nat × Nat × Nat)) (o : List Nat), (R.foldl (fun o x => insN x.2.2 o) o).length ≤ o.length + R.length
  | [], o => Nat.le_refl _
  | x :: R, o => by
    rw [List.foldl_cons]
    have := numsT_len' R (insN x.2.2 o)
    have := insN_len x.2.2 o
    simp only [List.length_cons]
    omega
theorem numsT_len (R : List (Nat × Nat × Nat)) : (numsT R).length ≤ R.length := by
  have := numsT_len' R []
  simpa [numsT] using this
theorem numsD_map (o : List Nat) (x : Nat) (a : Nat) : (o.take a ++ [x] ++ o.drop a).map (fun n : Nat => (n : Int)) = [] ++ (o.map (fun n : Nat => (n : Int))).take a ++ [(x : Int)] ++ (o.map (fun n : Nat => (n : Int))).drop a := by
  simp [List.map_append, List.map_take, List.map_drop]
theorem held2 {wq w' : World} {gx : Nat} {x0 x1 x2 : Int} (hx : Blk wq gx [.int .i64 x0, .int .i64 x1, .int .i64 x2] 30) (hb : Below wq.heap.size wq w') : w'.cell? ⟨gx, 2, none⟩ = some (.int .i64 x2) := by
  have r := (show Blk w' gx _ _ from (hb.block _ hx.lt).trans hx).cell 2
  rw [List.getElem?_cons_succ, List.getElem?_cons_succ, List.getElem?_cons_zero] at r
  exact r
theorem take_C {w : World} {A : Option Addr} {xs : List Int} (t : Nat) (h : Kd.C (Kd.int .i64) w A xs.length xs) (ht : t ≤ xs.length) : Kd.C (Kd.int .i64) w A t (xs.take t) := by
  have := Kd.C_take h ht
  rwa [List.length_take, Nat.min_eq_left ht] at this
theorem drop_C {w : World} {A A9 : Option Addr} {xs : List Int} {c t : Nat} (hA : (if c = t then A else A.map (·.add (t * 1))) = A9) (h : Kd.C (Kd.int .i64) w A xs.length xs) (ht : t ≤ xs.length) (hc : xs.length ≤ c) : Kd.C (Kd.int .i64) w A9 (xs.length - t) (xs.drop t) := by
  have := Kd.C_drop (m := t) (c := c) h ht hc
  rw [List.length_drop] at this
  rw [← hA]
  exact this
/-- The answer of Numbers by the document. -/
def NumsD (w : World) (ns : List Nat) (e : Ending) (w' : World) : Prop :=
  Below w.heap.size w w' ∧ ∃ A c, e = .returned (.slice A ns.length c) ∧ ns.length ≤ c ∧ Kd.C (Kd.int .i64) w' A ns.length (ns.map (fun n : Nat => (n : Int)))
theorem infoNd : (Try.prog.info? 3).map (fun i => (i.zero, i.size, i.bytes)) = some (some (.int .i64 0), 1, 8) := by kernel_rfl
def numsD_T9 : Bool × List (List Nat × List Nat) := (true, [([], []), ([], []), ([], []), ([1, 2], [1, 2]), ([0, 3], [0, 3]), ([], []), ([5], [5]), ([6], [6]), ([4, 7, 4], [4, 7]), ([8, 8, 0, 1, 2, 3, 4, 5, 6, 7, 8], [8])])
def numsD_B9 : List Nat := [0, 0, 0, 6, 15, 0, 32, 96, 255, 511]
theorem numsD_tab9 : rtab .any (opsOf Try.f46 9) = numsD_T9 := by kernel_rfl
theorem numsD_bits9 : waitsOk numsD_T9.2 numsD_B9 = true := by kernel_rfl

set_option maxRecDepth 100000 in
set_option maxHeartbeats 3200000 in
theorem numsd_calls (w : World) {q : List (Nat × Nat × Nat)} (hq : RiseN 0 q) (hql : q.length ≤ 1114112) {A : Option Addr} {c : Nat}
    (hC : Kd.C k30 w A q.length (q.map toS)) (hc : q.length ≤ c) :
    Calls Try.prog 46 #[.slice A q.length c] w (NumsD w (numsT (runsN [] 0 q))) := by
  have htil := runsN_ok hq
  have hRal := htil.length
  have HQ := Aside0.mk hC
  have HQR := Aside0.mk hq
  have infoI' := infoNd
  clear hC hq htil
  go_enter Try.func46, Try.ntmps46
  go_wp2_with (first | ((with_reducible refine gate_dst (N := 8) rfl ?_); refine Kd.R_lit (Kd.int .i64) _ 3 ?hg (N := 8) ?hd (xs := ([] : List Int)) (inner := []) (ok := fun _ => True) (okp := fun _ => True) ?hr ?hp (fun _ hk => hk) trivial (Below.refl _ _) (Nat.le_refl _) (by simp) ?_; (case hd => rfl); (case hg => rfl); (case hr => first | (go_simp; done) | (go_simp; rfl)); (case hp => exact (Reps.none _ _)); intro v1 w1 ho1 hb1 hg1 hn1; clear hg1 hn1; have HO1 := Aside0.mk ho1; have HB1 := Aside0.mk hb1; have HRU := Aside0.mk (runs_at HQR.out hql (Kd.C_below HQ.out hb1) hc); clear ho1 hb1))
  refine HRU.out.mono ?_
  rintro e w2 ⟨hb2, ga, ca, rfl, hga1, hga2, hcella⟩
  obtain ⟨A1, c1, rfl, hc1, hC1⟩ := Kd.R_reads HO1.out
  have HO2 := Aside0.mk (Kd.C_below hC1 hb2)
  have HB2 := Aside0.mk (HB1.out.trans (hb2.mono HB1.out.size))
  have HCA := Aside0.mk (fun (W : World) (i : Nat) (hi : i < (runsN [] 0 q).length) (hW : Below w2.heap.size w2 W) => hcella W i hi (hW.block ga hga2))
  clear hb2 HRU HB1 HO1 hga1 hga2 hcella hC1
  generalize runsN [] 0 q = Ra at *
  go_wp2
  go_loopg [3, 12] (Ra.length + 1) (fun k v3 v12 wr => ∃ i : Nat, i ≤ Ra.length ∧ Ra.length + 1 - i ≤ k ∧ v12 = .int .i64 (i : Int) ∧ (∃ A3 c3, v3 = .slice A3 (numsT (Ra.take i)).length c3 ∧ (numsT (Ra.take i)).length ≤ c3 ∧ Aside0 (Kd.C (Kd.int .i64) wr A3 (numsT (Ra.take i)).length ((numsT (Ra.take i)).map (fun n : Nat => (n : Int))))) ∧ Aside0 (Below w2.heap.size w2 wr))
  case atStart => exact ⟨0, by omega, by omega, rfl, ⟨A1, c1, rfl, hc1, HO2⟩, ⟨Below.refl _ _⟩⟩
  case round =>
    obtain ⟨i, hi, hik, rfl, ⟨A3, c3, rfl, hc3, hO⟩, hB⟩ := hrel
    by_cases hlt : i < Ra.length
    · have hlt' : (i : Int) < (Ra.length : Int) := by omega
      obtain ⟨k0, k1, k2⟩ := HCA.out wr i hlt hB.out
      have hst := numsT_step i hlt
      have hlen := numsT_len (Ra.take i)
      rw [List.length_take] at hlen
      generalize Ra.getD i z3 = x at k0 k1 k2 hst
      obtain ⟨x0, x1, x2⟩ := x
      simp only at k0 k1 k2 hst
      generalize numsT (Ra.take i) = o at *
      obtain ⟨gko, rfl⟩ : ∃ n, n = gk := ⟨_, rfl⟩
      obtain ⟨W4, rfl⟩ : ∃ x, x = wr := ⟨_, rfl⟩
      have h1 := idxN_le x2 o
      have HLT := Aside0.mk (idxN_lt x2 o)
      have HSTOP := Aside0.mk (idxN_stop x2 o)
      have HSAME := Aside0.mk (fun (a : idxN x2 o < o.length) (b : o.getD (idxN x2 o) 0 = x2) => (hst.trans (insN_same x2 o a b)))
      have HNEW := Aside0.mk (fun (a : ¬ (idxN x2 o < o.length ∧ o.getD (idxN x2 o) 0 = x2)) => (hst.trans (insN_new x2 o a)))
      clear hst
      generalize idxN x2 o = at_ at *
      generalize hE : numsT (Ra.take (i + 1)) = o1 at *
      have H1E := Aside0.mk hE
      clear hE
      have HX5 := Aside0.mk (blk_new W4 [.int .i64 (x0 : Int), .int .i64 (x1 : Int), .int .i64 (x2 : Int)] 30)
      have HO5 := Aside0.mk (Kd.C_below hO.out (below_alloc (Below.refl _ _) (.cells #[.int .i64 (x0 : Int), .int .i64 (x1 : Int), .int .i64 (x2 : Int)] 30)))
      have HB5 := Aside0.mk (below_alloc hB.out (.cells #[.int .i64 (x0 : Int), .int .i64 (x1 : Int), .int .i64 (x2 : Int)] 30))
      clear hO hB
      go_wp2_with fail
      generalize hq8 : W4.alloc (.cells #[.int .i64 (x0 : Int), .int .i64 (x1 : Int), .int .i64 (x2 : Int)] 30) = w5 at *
      generalize hgx : W4.heap.size = gx at *
      clear k0 k1 k2 hq8 hgx
      go_loopg [6] (at_ + 1) (fun k v6 wr => ∃ t nq : Nat, t ≤ at_ ∧ at_ + 1 - t ≤ k ∧ v6 = .int .i64 (t : Int) ∧ wr = w5.drewN nq)
      case atStart => exact ⟨0, 0, by omega, by omega, rfl, rfl⟩
      case round =>
        obtain ⟨t, nq, ht, htk, rfl, rfl⟩ := hrel
        have r2 := HX5.out.cell 2
        rw [List.getElem?_cons_succ, List.getElem?_cons_succ, List.getElem?_cons_zero] at r2
        go_upto_region 6 with fail
        go_cut [6, 28] from 16 to 29 (fun v6 v28 wx => v6 = .int .i64 (t : Int) ∧ v28 = .bool (decide (t < at_)) ∧ ∃ n, wx = w5.drewN n)
        case first =>
          by_cases hin : t < o.length
          · have hd1 : decide ((t : Int) < (o.length : Int)) = true := decide_eq_true (by omega)
            have g1 : (0 : Int) ≤ (t : Int) := by omega
            have g2 : (t : Int) < (o.length : Int) := by omega
            obtain ⟨ad, rfl, s0⟩ := at_I HO5.out t (by rw [List.length_map]; omega)
            rw [show (o.map (fun n : Nat => (n : Int))).getD t 0 = ((o.getD t 0 : Nat) : Int) by simp [List.getD_eq_getElem?_getD, List.getElem?_map, List.getElem?_eq_getElem (show t < o.length by omega)]] at s0
            have hd2 : decide (o.getD t 0 < x2) = decide (t < at_) := by
              by_cases hta : t < at_
              · rw [decide_eq_true hta, decide_eq_true (HLT.out t hta)]
              · obtain rfl : t = at_ := by omega
                rw [decide_eq_false hta, decide_eq_false (by have := HSTOP.out hin; omega)]
            clear HSAME HNEW HLT HSTOP
            generalize o.getD t 0 = y at s0 hd2
            have hd4 : decide ((y : Int) < (x2 : Int)) = decide (t < at_) := by rw [← hd2]; exact decide_eq_decide.mpr (by omega)
            generalize decide (t < at_) = bt at *
            go_quiet (fail)
            go_wp2_with fail
            go_meet
            exact ⟨rfl, by first | rfl | exact congrArg Value.bool hd2, _, World.drewN_drewN _ _ _⟩
          · have hd1 : decide ((t : Int) < (o.length : Int)) = false := decide_eq_false (by omega)
            have hd2 := Aside0.mk (show false = decide (t < at_) from (decide_eq_false (by omega)).symm)
            go_quiet (fail)
            go_wp2_with fail
            go_meet
            exact ⟨rfl, congrArg Value.bool hd2.out, _, World.drewN_drewN _ _ _⟩
        case rest =>
          obtain ⟨rfl, rfl, n2, rfl⟩ := hcut
          by_cases hta : t < at_
          · rw [decide_eq_true hta]
            go_wp2
            go_roundg (gk - 1)
            case measure => omega
            case rel => exact ⟨t + 1, _, by omega, by omega, by go_num, rfl⟩
          · rw [decide_eq_false hta]
            obtain rfl : t = at_ := by omega
            go_upto_region 8 with fail
            obtain ⟨bn, hbn⟩ : ∃ b, b = decide (t < o.length ∧ o.getD t 0 = x2) := ⟨_, rfl⟩
            go_cut [6, 12, 43] from 31 to 44 (fun v6 v12 v43 wx => v6 = .int .i64 (t : Int) ∧ v12 = .int .i64 (i : Int) ∧ v43 = .bool bn ∧ ∃ n, wx = w5.drewN n)
            case first =>
              by_cases hin : t < o.length
              · have hd1 : decide ((t : Int) < (o.length : Int)) = true := decide_eq_true (by omega)
                have g1 : (0 : Int) ≤ (t : Int) := by omega
                have g2 : (t : Int) < (o.length : Int) := by omega
                obtain ⟨ad, rfl, s0⟩ := at_I HO5.out t (by rw [List.length_map]; omega)
                rw [show (o.map (fun n : Nat => (n : Int))).getD t 0 = ((o.getD t 0 : Nat) : Int) by simp [List.getD_eq_getElem?_getD, List.getElem?_map, List.getElem?_eq_getElem (show t < o.length by omega)]] at s0
                have hd2 : (o.getD t 0 == x2) = bn := by
                  rw [hbn]
                  by_cases he : o.getD t 0 = x2
                  · rw [decide_eq_true ⟨hin, he⟩]; exact beq_iff_eq.mpr he
                  · rw [decide_eq_false (fun h => he h.2)]; exact beq_false_of_ne he
                clear HSAME HNEW HLT HSTOP hbn
                generalize o.getD t 0 = y at s0 hd2
                have hd4 : ((y : Int) == (x2 : Int)) = bn := by
                  rw [← hd2]
                  by_cases he : y = x2
                  · subst he; rw [beq_self_eq_true, beq_self_eq_true]
                  · rw [beq_false_of_ne he, beq_false_of_ne (by omega)]
                go_quiet (fail)
                go_wp2_with fail
                go_meet
                exact ⟨rfl, rfl, congrArg Value.bool (by first | exact hd2 | exact hd4 | (simp only [hd2, hd4]; done)), _, World.drewN_drewN _ _ _⟩
              · have hd1 : decide ((t : Int) < (o.length : Int)) = false := decide_eq_false (by omega)
                have hd2 := Aside0.mk (show false = bn by rw [hbn]; exact (decide_eq_false (fun h => hin h.1)).symm)
                clear hbn
                go_quiet (fail)
                go_wp2_with fail
                go_meet
                exact ⟨rfl, rfl, congrArg Value.bool hd2.out, _, World.drewN_drewN _ _ _⟩
            case rest =>
              obtain ⟨rfl, rfl, rfl, n3, rfl⟩ := hcut
              cases bn with
              | true =>
                obtain ⟨hin, he⟩ := of_decide_eq_true hbn.symm
                obtain rfl : o1 = o := HSAME.out hin he
                have HO9 := Aside0.mk (show Kd.C (Kd.int .i64) (w5.drewN n3) A3 o1.length (o1.map (fun n : Nat => (n : Int))) from Kd.C_below HO5.out (pw_below_drewN (Below.refl _ _) n3))
                have HB9 := Aside0.mk (pw_below_drewN HB5.out n3)
                go_wp2_with fail
                go_roundg (gko - 1)
                case measure => omega
                case rel => exact ⟨i + 1, by omega, by omega, by go_num, by rw [H1E.out]; exact ⟨A3, c3, rfl, hc3, HO9⟩, HB9⟩
              | false =>
                have hnew := HNEW.out (of_decide_eq_false hbn.symm)
                have ho1 : o1.map (fun n : Nat => (n : Int)) = _ := (congrArg (List.map (fun n : Nat => (n : Int))) hnew).trans (numsD_map o x2 t)
                have hl1 : o1.length = t + 1 + (o.length - t) := by rw [hnew]; simp; omega
                have HM1 := Aside0.mk ho1
                have HLEN := Aside0.mk (show o.length ≤ 1114112 by omega)
                have HO7 := Aside0.mk (show Kd.C (Kd.int .i64) (w5.drewN n3) A3 o.length (o.map (fun n : Nat => (n : Int))) from Kd.C_below HO5.out (pw_below_drewN (Below.refl _ _) n3))
                have HB7 := Aside0.mk (pw_below_drewN HB5.out n3)
                have HX7 := Aside0.mk (show Blk (w5.drewN n3) gx _ _ from HX5.out)
                replace HO7 := Aside0.mk (show Kd.C (Kd.int .i64) (w5.drewN n3) A3 (o.map (fun n : Nat => (n : Int))).length (o.map (fun n : Nat => (n : Int))) from by rw [List.length_map]; exact HO7.out)
                have hlx : (o.map (fun n : Nat => (n : Int))).length = o.length := List.length_map _
                rw [← hlx] at hc3 h1 hl1 HLEN ⊢
                generalize o.map (fun n : Nat => (n : Int)) = xs at *
                clear hnew ho1 HNEW HSAME HLT HSTOP HO5 HB5 HX5 hbn hlx hlen
                obtain ⟨i0, hi0, _, hsz0, _⟩ := info_parts infoI'
                have hcut := cut_to (P := Try.prog) 54 3 .i64 Try.underlying54 hi0 A3 xs.length c3 (t : Int) (by omega) (by omega) hc3
                have hfrom := cut_from (P := Try.prog) 54 3 .i64 Try.underlying54 hi0 1 hsz0 A3 xs.length c3 (t : Int) (by omega) (by omega)
                rw [Int.toNat_natCast] at hcut hfrom
                generalize hA9 : (if c3 = t then A3 else A3.map (·.add (t * 1))) = A9 at hfrom
                generalize hc9 : c3 - t = c9 at hfrom
                have HDF := Aside0.mk hA9
                have hn9 : xs.length - t ≤ c9 := by omega
                clear hA9 hc9
                generalize hat : t = at_ at *
                go_upto_region 9 with fail
                generalize w5.drewN n3 = wd at *
                clear r2
                have r2 := held2 HX7.out (Below.refl wd.heap.size wd)
                replace r2 : wd.drew.cell? _ = _ := r2
                refine start_ (n := 10) (S := fun w' => w'.cell? ⟨gx, 2, none⟩ = some (.int .i64 (x2 : Int))) (ds := []) #[false, false, false, false, false, false, false, false, false, false] (by kernel_rfl) rfl rfl r2 (fun hHeld => ?_); refine with_tabW numsD_tab9 numsD_bits9 (fun HT_ HW_ => ?_)
                generalize hwq : wd.drew = wq at hHeld ⊢
                have HX := Aside0.mk (show Blk wq gx _ _ from by rw [← hwq]; exact HX7.out)
                have HCD := Aside0.mk (show Kd.C (Kd.int .i64) wq A3 xs.length xs from by rw [← hwq]; exact Kd.C_drew HO7.out)
                have HCT := Aside0.mk (take_C at_ HCD.out h1)
                have HBW := Aside0.mk (show Below w2.heap.size w2 wq from by rw [← hwq]; exact below_drew1 HB7.out)
                have HB := Aside0.mk (Below.refl wq.heap.size wq)
                clear hwq HX7 HO7 HB7 r2
                refine pure_ (i := 1) (N := some 45) (v := ?_) (a' := ?_) #[false, true, false, false, false, false, false, false, false, false] rfl rfl (any_of HT_.out (by kernel_rfl)) (fun _ _ _ h => h) (Or.inl ⟨by rfl, ?_⟩) ?_ ?_
                rotate_left
                · intro w'
                  go_simp
                  with_reducible rfl
                rotate_left
                · simp only [Act.put, List.setIfInBounds_toArray, List.set_cons_zero, List.set_cons_succ, i64_w, i32_w]
                  rfl
                refine pure_ (i := 2) (N := some 46) (v := ?_) (a' := ?_) #[false, true, true, false, false, false, false, false, false, false] rfl rfl (any_of HT_.out (by kernel_rfl)) (fun _ _ _ h => h) (Or.inl ⟨by rfl, ?_⟩) ?_ ?_
                rotate_left
                · intro w'
                  go_simp
                  with_reducible rfl
                rotate_left
                · simp only [Act.put, List.setIfInBounds_toArray, List.set_cons_zero, List.set_cons_succ, i64_w, i32_w]
                  rfl
                refine pure_ (i := 3) (N := some 47) (v := ?_) (a' := ?_) #[false, true, true, true, false, false, false, false, false, false] rfl rfl (any_of HT_.out (by kernel_rfl)) (fun _ _ _ h => h) (Or.inl ⟨by rfl, ?_⟩) ?_ ?_
                rotate_left
                · intro w'
                  go_simp
                  with_reducible rfl
                rotate_left
                · simp only [Act.put, List.setIfInBounds_toArray, List.set_cons_zero, List.set_cons_succ, i64_w, i32_w]
                  rfl
                refine pure_ (i := 5) (N := some 49) (v := ?_) (a' := ?_) #[false, true, true, true, false, true, false, false, false, false] rfl rfl (any_of HT_.out (by kernel_rfl)) (fun _ _ _ h => h) (Or.inl ⟨by rfl, ?_⟩) ?_ ?_
                rotate_left
                · intro w'
                  go_simp
                  with_reducible rfl
                rotate_left
                · simp only [Act.put, List.setIfInBounds_toArray, List.set_cons_zero, List.set_cons_succ, i64_w, i32_w]
                  rfl
                refine take_ (i := 6) (N := some 50) (v := ?_) (a' := ?_) #[false, true, true, true, false, true, true, false, false, false] rfl rfl (take_ofW HT_.out HW_.out (by kernel_rfl)) (fun _ _ _ h => h) (Or.inl ⟨by rfl, ?_⟩) hHeld ?_ ?_
                rotate_left
                · rintro w' s2
                  go_simp
                  with_reducible rfl
                rotate_left
                · simp only [Act.put, List.setIfInBounds_toArray, List.set_cons_zero, List.set_cons_succ, i64_w, i32_w]
                  rfl
                refine join_ (σ := Value × Value × Value) 2 #[true, true, true, true, true, true, true, true, false, false] (fun s_ => [(44, s_.1), (48, s_.2.1), (51, s_.2.2)]) (fun s_ w' => (Kd.R (Kd.int .i64) 3 w' wq.heap.size (fun k_ => True ∧ some k_ ≠ (s_.2.2 : Value).ownBlock) s_.2.1 ([] ++ xs.take at_)) ∧ (Kd.R (Kd.int .i64) 3 w' wq.heap.size (fun k_ => True ∧ some k_ ≠ (s_.2.1 : Value).ownBlock) s_.2.2 [(x2 : Int)]) ∧ (Below wq.heap.size wq w')) ?_ ?_
                rotate_left
                · intro hCont
                  refine two_ (i := 0) (j := 7) (Ni := some 44) (Nj := some 51) #[true, true, true, true, false, true, true, false, false, false] #[false, true, true, true, false, true, true, true, false, false] rfl rfl rfl rfl (two_of HT_.out (by kernel_rfl)) (by decide) (by decide) (fun K hK => ?_) (fun K hK => ?_)
                  · skip
                    refine Kd.R_lit_step (Kd.int .i64) _ 3 ?hg (N := 44) ?hd (xs := ([] : List Int)) (inner := []) (ok := fun _ => True) (okp := fun _ => True) ?hr ?hp (fun _ hk => hk) trivial (Below.refl _ _) (Nat.le_refl _) (by simp) ?_; (case hd => rfl); (case hg => rfl); (case hr => first | (go_simp; done) | (go_simp; rfl)); (case hp => exact (Reps.none _ _))
                    intro v44 w44 ho hb hg_ hnew_
                    clear hg_ hnew_
                    have H44 := Aside0.mk (Kd.R_lower ho HB.out.size)
                    replace HB := Aside0.mk (below_step HB.out hb)
                    clear ho hb
                    refine hK.out _ _ (held2 HX.out HB.out) (fun hHeld => ?_)
                    clear hK K
                    refine norm_ (a' := ?_) ?_ ?_
                    rotate_left
                    · show Act.put _ (some 44) _ = _
                      simp only [Act.put, List.setIfInBounds_toArray, List.set_cons_zero, List.set_cons_succ, i64_w, i32_w]
                      rfl
                    refine two_ (i := 4) (j := 7) (Ni := some 48) (Nj := some 51) #[true, true, true, true, true, true, true, false, false, false] #[true, true, true, true, false, true, true, true, false, false] rfl rfl rfl rfl (two_of HT_.out (by kernel_rfl)) (by decide) (by decide) (fun K hK => ?_) (fun K hK => ?_)
                    · skip
                      refine Kd.R_append_rows_step (Kd.int .i64) (w0 := wq) wq.heap.size (by rfl) (.tmp 44) (.tmp 47) 54 3 (.int .i64 0) 8 rfl Try.underlying54 infoI' rfl (by decide) (by omega) v44 [] (xs.take at_) A3 at_ c3 (fun _ => True) (fun _ => False) rfl rfl H44.out (Kd.C_below HCT.out HB.out) (fun _ _ h => h) (fun _ h => h.elim) (fun _ _ => trivial) HB.out HB.out.size (by have := HLEN.out; simp only [List.length_append, List.length_take, List.length_nil, List.length_cons] at *; omega) ?_
                      intro v48 w48 ho hb hg hat
                      have H48 := Aside0.mk (ho)
                      replace HB := Aside0.mk hb
                      clear H44 ho hb hg hat
                      refine hK.out _ _ (held2 HX.out HB.out) (fun hHeld => ?_)
                      clear hK K
                      refine norm_ (a' := ?_) ?_ ?_
                      rotate_left
                      · show Act.put _ (some 48) _ = _
                        simp only [Act.put, List.setIfInBounds_toArray, List.set_cons_zero, List.set_cons_succ, i64_w, i32_w]
                        rfl
                      refine one_ (i := 7) (N := some 51) #[true, true, true, true, true, true, true, true, false, false] rfl rfl (one_of HT_.out (by kernel_rfl)) (by decide) (fun K hK => ?_)
                      refine Kd.R_lit_step (Kd.int .i64) _ 3 ?hg (N := 51) ?hd (xs := ([(x2 : Int)] : List Int)) (inner := [.int .i64 (x2 : Int)]) (ok := fun _ => True) (okp := fun _ => True) ?hr ?hp (fun _ hk => hk) trivial (Below.refl _ _) (Nat.le_refl _) (by simp) ?_; (case hd => rfl); (case hg => rfl); (case hr => first | (go_simp; done) | (go_simp; rfl)); (case hp => exact (Reps.one (show Kd.M (Kd.int .i64) _ _ _ ((x2 : Nat) : Int) [.int .i64 (x2 : Int)] from rfl) (Reps.none _ _)))
                      intro v51 w51 ho hb hg_ hnew_
                      clear hg_ hnew_
                      have H51 := Aside0.mk (Kd.R_lower (Kd.R_new' ho (Kd.R_lt H48.out)) HB.out.size)
                      replace H48 := Aside0.mk (Kd.R_elder' H48.out (Kd.R_base ho) hb)
                      replace HB := Aside0.mk (below_step HB.out hb)
                      clear ho hb
                      refine hK.out _ _ (held2 HX.out HB.out) (fun hHeld => ?_)
                      clear hK K
                      refine norm_ (a' := ?_) ?_ ?_
                      rotate_left
                      · show Act.put _ (some 51) _ = _
                        simp only [Act.put, List.setIfInBounds_toArray, List.set_cons_zero, List.set_cons_succ, i64_w, i32_w]
                        rfl
                      exact norm_ (by simp only [putAll, Act.put, List.setIfInBounds_toArray, List.set_cons_zero, List.set_cons_succ]) (hCont (v44, v48, v51) _ ⟨H48.out, H51.out, HB.out⟩)
                    · skip
                      refine Kd.R_lit_step (Kd.int .i64) _ 3 ?hg (N := 51) ?hd (xs := ([(x2 : Int)] : List Int)) (inner := [.int .i64 (x2 : Int)]) (ok := fun _ => True) (okp := fun _ => True) ?hr ?hp (fun _ hk => hk) trivial (Below.refl _ _) (Nat.le_refl _) (by simp) ?_; (case hd => rfl); (case hg => rfl); (case hr => first | (go_simp; done) | (go_simp; rfl)); (case hp => exact (Reps.one (show Kd.M (Kd.int .i64) _ _ _ ((x2 : Nat) : Int) [.int .i64 (x2 : Int)] from rfl) (Reps.none _ _)))
                      intro v51 w51 ho hb hg_ hnew_
                      clear hg_ hnew_
                      have H51 := Aside0.mk (Kd.R_lower (Kd.R_new' ho (Kd.R_lt H44.out)) HB.out.size)
                      replace H44 := Aside0.mk (Kd.R_elder' H44.out (Kd.R_base ho) hb)
                      replace HB := Aside0.mk (below_step HB.out hb)
                      clear ho hb
                      refine hK.out _ _ (held2 HX.out HB.out) (fun hHeld => ?_)
                      clear hK K
                      refine norm_ (a' := ?_) ?_ ?_
                      rotate_left
                      · show Act.put _ (some 51) _ = _
                        simp only [Act.put, List.setIfInBounds_toArray, List.set_cons_zero, List.set_cons_succ, i64_w, i32_w]
                        rfl
                      refine one_ (i := 4) (N := some 48) #[true, true, true, true, true, true, true, true, false, false] rfl rfl (one_of HT_.out (by kernel_rfl)) (by decide) (fun K hK => ?_)
                      refine Kd.R_append_rows_step (Kd.int .i64) (w0 := wq) wq.heap.size (by rfl) (.tmp 44) (.tmp 47) 54 3 (.int .i64 0) 8 rfl Try.underlying54 infoI' rfl (by decide) (by omega) v44 [] (xs.take at_) A3 at_ c3 (fun k_ => True ∧ some k_ ≠ (v51 : Value).ownBlock) (fun _ => False) rfl rfl H44.out (Kd.C_below HCT.out HB.out) (fun _ _ h => h) (fun _ h => h.elim) (fun k hk => ⟨trivial, Kd.fresh' (Kd.R_lt H51.out) k hk⟩) HB.out HB.out.size (by have := HLEN.out; simp only [List.length_append, List.length_take, List.length_nil, List.length_cons] at *; omega) ?_
                      intro v48 w48 ho hb hg hat
                      replace H51 := Aside0.mk (Kd.R_after H51.out hg hat)
                      have H48 := Aside0.mk (ho)
                      replace HB := Aside0.mk hb
                      clear H44 ho hb hg hat
                      refine hK.out _ _ (held2 HX.out HB.out) (fun hHeld => ?_)
                      clear hK K
                      refine norm_ (a' := ?_) ?_ ?_
                      rotate_left
                      · show Act.put _ (some 48) _ = _
                        simp only [Act.put, List.setIfInBounds_toArray, List.set_cons_zero, List.set_cons_succ, i64_w, i32_w]
                        rfl
                      exact norm_ (by simp only [putAll, Act.put, List.setIfInBounds_toArray, List.set_cons_zero, List.set_cons_succ]) (hCont (v44, v48, v51) _ ⟨H48.out, H51.out, HB.out⟩)
                  · skip
                    refine Kd.R_lit_step (Kd.int .i64) _ 3 ?hg (N := 51) ?hd (xs := ([(x2 : Int)] : List Int)) (inner := [.int .i64 (x2 : Int)]) (ok := fun _ => True) (okp := fun _ => True) ?hr ?hp (fun _ hk => hk) trivial (Below.refl _ _) (Nat.le_refl _) (by simp) ?_; (case hd => rfl); (case hg => rfl); (case hr => first | (go_simp; done) | (go_simp; rfl)); (case hp => exact (Reps.one (show Kd.M (Kd.int .i64) _ _ _ ((x2 : Nat) : Int) [.int .i64 (x2 : Int)] from rfl) (Reps.none _ _)))
                    intro v51 w51 ho hb hg_ hnew_
                    clear hg_ hnew_
                    have H51 := Aside0.mk (Kd.R_lower ho HB.out.size)
                    replace HB := Aside0.mk (below_step HB.out hb)
                    clear ho hb
                    refine hK.out _ _ (held2 HX.out HB.out) (fun hHeld => ?_)
                    clear hK K
                    refine norm_ (a' := ?_) ?_ ?_
                    rotate_left
                    · show Act.put _ (some 51) _ = _
                      simp only [Act.put, List.setIfInBounds_toArray, List.set_cons_zero, List.set_cons_succ, i64_w, i32_w]
                      rfl
                    refine one_ (i := 0) (N := some 44) #[true, true, true, true, false, true, true, true, false, false] rfl rfl (one_of HT_.out (by kernel_rfl)) (by decide) (fun K hK => ?_)
                    refine Kd.R_lit_step (Kd.int .i64) _ 3 ?hg (N := 44) ?hd (xs := ([] : List Int)) (inner := []) (ok := fun _ => True) (okp := fun _ => True) ?hr ?hp (fun _ hk => hk) trivial (Below.refl _ _) (Nat.le_refl _) (by simp) ?_; (case hd => rfl); (case hg => rfl); (case hr => first | (go_simp; done) | (go_simp; rfl)); (case hp => exact (Reps.none _ _))
                    intro v44 w44 ho hb hg_ hnew_
                    clear hg_ hnew_
                    have H44 := Aside0.mk (Kd.R_lower (Kd.R_new' ho (Kd.R_lt H51.out)) HB.out.size)
                    replace H51 := Aside0.mk (Kd.R_elder' H51.out (Kd.R_base ho) hb)
                    replace HB := Aside0.mk (below_step HB.out hb)
                    clear ho hb
                    refine hK.out _ _ (held2 HX.out HB.out) (fun hHeld => ?_)
                    clear hK K
                    refine norm_ (a' := ?_) ?_ ?_
                    rotate_left
                    · show Act.put _ (some 44) _ = _
                      simp only [Act.put, List.setIfInBounds_toArray, List.set_cons_zero, List.set_cons_succ, i64_w, i32_w]
                      rfl
                    refine one_ (i := 4) (N := some 48) #[true, true, true, true, true, true, true, true, false, false] rfl rfl (one_of HT_.out (by kernel_rfl)) (by decide) (fun K hK => ?_)
                    refine Kd.R_append_rows_step (Kd.int .i64) (w0 := wq) wq.heap.size (by rfl) (.tmp 44) (.tmp 47) 54 3 (.int .i64 0) 8 rfl Try.underlying54 infoI' rfl (by decide) (by omega) v44 [] (xs.take at_) A3 at_ c3 (fun k_ => True ∧ some k_ ≠ (v51 : Value).ownBlock) (fun _ => False) rfl rfl H44.out (Kd.C_below HCT.out HB.out) (fun _ _ h => h) (fun _ h => h.elim) (fun k hk => ⟨trivial, Kd.fresh' (Kd.R_lt H51.out) k hk⟩) HB.out HB.out.size (by have := HLEN.out; simp only [List.length_append, List.length_take, List.length_nil, List.length_cons] at *; omega) ?_
                    intro v48 w48 ho hb hg hat
                    replace H51 := Aside0.mk (Kd.R_after H51.out hg hat)
                    have H48 := Aside0.mk (ho)
                    replace HB := Aside0.mk hb
                    clear H44 ho hb hg hat
                    refine hK.out _ _ (held2 HX.out HB.out) (fun hHeld => ?_)
                    clear hK K
                    refine norm_ (a' := ?_) ?_ ?_
                    rotate_left
                    · show Act.put _ (some 48) _ = _
                      simp only [Act.put, List.setIfInBounds_toArray, List.set_cons_zero, List.set_cons_succ, i64_w, i32_w]
                      rfl
                    exact norm_ (by simp only [putAll, Act.put, List.setIfInBounds_toArray, List.set_cons_zero, List.set_cons_succ]) (hCont (v44, v48, v51) _ ⟨H48.out, H51.out, HB.out⟩)
                rintro ⟨v44, v48, v51⟩ wj ⟨h48, h51, hbj⟩
                have H48 := Aside0.mk h48
                have H51 := Aside0.mk h51
                replace HB := Aside0.mk hbj
                obtain ⟨A51, c51, rfl⟩ := Kd.R_slice h51
                clear h48 h51 hbj
                refine norm_ (a' := ?_) ?_ ?_
                rotate_left
                · simp only [putAll, Act.put, List.setIfInBounds_toArray, List.set_cons_zero, List.set_cons_succ]
                  rfl
                refine one_ (i := 8) (N := some 52) #[true, true, true, true, true, true, true, true, true, false] rfl rfl (one_of HT_.out (by kernel_rfl)) (by decide) (fun K hK => ?_)
                refine Kd.R_append_rows_step (Kd.int .i64) (w0 := wq) wq.heap.size (by rfl) (.tmp 48) (.tmp 51) 54 3 (.int .i64 0) 8 rfl Try.underlying54 infoI' rfl (by decide) (by omega) v48 ([] ++ xs.take at_) [(x2 : Int)] A51 _ c51 (fun k_ => True ∧ some k_ ≠ (.slice A51 [(x2 : Int)].length c51 : Value).ownBlock) (fun _ => False) rfl rfl H48.out (Kd.R_reads' H51.out).2.2 (fun _ _ h => h) (fun _ h => h.elim) (fun k hk => ⟨trivial, Kd.fresh' (Kd.R_lt H51.out) k hk⟩) HB.out HB.out.size (by have := HLEN.out; simp only [List.length_append, List.length_take, List.length_nil, List.length_cons] at *; omega) ?_
                intro v52 w52 ho hb hg hat
                have H52 := Aside0.mk (ho)
                replace HB := Aside0.mk hb
                clear H48 H51 ho hb hg hat
                refine hK.out _ _ (held2 HX.out HB.out) (fun hHeld => ?_)
                clear hK K
                refine norm_ (a' := ?_) ?_ ?_
                rotate_left
                · show Act.put _ (some 52) _ = _
                  simp only [Act.put, List.setIfInBounds_toArray, List.set_cons_zero, List.set_cons_succ, i64_w, i32_w]
                  rfl
                refine pure_ (i := 9) (N := some 7) (v := ?_) (a' := ?_) #[true, true, true, true, true, true, true, true, true, true] rfl rfl (any_of HT_.out (by kernel_rfl)) (fun _ _ _ h => h) (Or.inl ⟨by rfl, ?_⟩) ?_ ?_
                rotate_left
                · intro w'
                  go_simp
                  with_reducible rfl
                rotate_left
                · simp only [Act.put, List.setIfInBounds_toArray, List.set_cons_zero, List.set_cons_succ, i64_w, i32_w]
                  rfl
                refine done_ (done_of HT_.out (by kernel_rfl)) ?_
                have HCD9 := Aside0.mk (drop_C HDF.out (Kd.C_below HCD.out HB.out) h1 hc3)
                clear HCT HCD
                go_wp2_with (first | ((with_reducible refine gate_builtin (b := .append) (xs := #[.tmp 53, .tmp 56]) rfl ?_); at_builtin; refine Kd.R_append_rows (Kd.int .i64) (w0 := wq) wq.heap.size rfl (.tmp 53) (.tmp 56) 54 3 (.int .i64 0) 8 rfl Try.underlying54 infoI' rfl (by decide) (by omega) v52 ([] ++ xs.take at_ ++ [(x2 : Int)]) (xs.drop at_) A9 (xs.length - at_) c9 (fun k_ => True) (fun _ => False) rfl (by first | (go_simp; done) | (go_simp; rfl) | rfl) (Kd.R_mono H52.out (fun _ _ => trivial)) HCD9.out (fun _ _ h => h) (fun _ h => h.elim) (fun _ _ => trivial) HB.out HB.out.size (by have := HLEN.out; simp only [List.length_append, List.length_take, List.length_nil, List.length_cons, List.length_drop] at *; omega) ?_; intro v5 w5 ho5 hb5 hg5 hat5; have HO5 := Aside0.mk ho5; have HB5 := Aside0.mk hb5; clear ho5 hb5 hg5 hat5))
                have HF9 := Aside0.mk (HBW.out.trans (HB5.out.mono HBW.out.size))
                obtain ⟨A9', c9', rfl, hc9', hC9'⟩ := Kd.R_reads HO5.out
                rw [← HM1.out, List.length_map] at hC9'
                have hle : ([] ++ xs.take at_ ++ [(x2 : Int)] ++ xs.drop at_).length = o1.length := by rw [← HM1.out, List.length_map]
                rw [hle] at hc9' ⊢
                have HC9' := Aside0.mk hC9'
                clear hC9' HO5 HB5
                go_wp2
                go_roundg (gko - 1)
                case measure => omega
                case rel => exact ⟨i + 1, by omega, by omega, by go_num, by rw [H1E.out]; exact ⟨A9', c9', rfl, hc9', HC9'⟩, HF9⟩
    · have hlt' : ¬ (i : Int) < (Ra.length : Int) := by omega
      obtain rfl : i = Ra.length := by omega
      rw [List.take_of_length_le (Nat.le_refl _)] at hO hc3 ⊢
      have HF := Aside0.mk (show NumsD w (numsT Ra) (.returned (.slice A3 (numsT Ra).length c3)) wr from ⟨HB2.out.trans (hB.out.mono HB2.out.size), A3, c3, rfl, hc3, hO.out⟩)
      clear hB hO
      generalize numsT Ra = out at *
      go_wp2
      go_ret
      exact HF.out

end Go.Proofs.Ytajmbafljncjcaa.PStageOver
