/- Same: do two tables say the same? -/
import Derived.Test.YtajmbafljncjcaaStD
import Derived.Deep.QuietTactic
import Derived.BigQuiet
import Derived.Laws.StructEq
import Derived.Handy
namespace Go.Proofs.Ytajmbafljncjcaa.Stage
open Go.RowKit Go.Proofs.YtajmbafljncjcaaW.PrintWords Go.Proofs.YtajmbafljncjcaaW.PrintLast Go.Proofs.YtajmbafljncjcaaW.PrintMore Go.Proofs.Ytajmbafljncjcaa.Mp
set_option linter.unusedVariables false
set_option linter.unusedSimpArgs false

def sameB (say say' : Nat → Nat) : Bool := (List.range 8704).all fun i => blkOf say i == blkOf say' i
theorem sameB_iff (say say' : Nat → Nat) : sameB say say' = true ↔ ∀ p, p < 1114112 → say p = say' p := by
  unfold sameB
  rw [List.all_eq_true]
  refine ⟨fun h p hp => ?_, fun h i hi => ?_⟩
  · have h1 := h (p / 128) (List.mem_range.2 (by omega))
    rw [beq_iff_eq] at h1
    have h2 := congrArg (fun l => l.getD (p % 128) 0) h1
    simp only [blkOf_get _ _ _ (show p % 128 < 128 by omega)] at h2
    rwa [Nat.div_add_mod] at h2
  · rw [beq_iff_eq]
    have hi := List.mem_range.1 hi
    simp only [blkOf]
    exact List.map_congr_left fun j hj => h _ (by have := List.mem_range.1 hj; omega)

/-- Cells that are a block's. -/
def okB (v : Value) : Bool := match v with
  | .agg cs => decide (cs.size = 128) && cs.toList.all fun u => match u with | .int .u16 n => decide (0 ≤ n) | _ => false
  | _ => false
def numB (v : Value) : List Nat := match v with
  | .agg cs => cs.toList.map fun u => match u with | .int .u16 n => n.toNat | _ => 0
  | _ => []
theorem okB_nat {v : Value} (h : okB v = true) : (numB v).length = 128 ∧ v = .agg (natCells .u16 (numB v)).toArray := by
  unfold okB at h
  split at h
  · rename_i cs
    rw [Bool.and_eq_true, decide_eq_true_eq, List.all_eq_true] at h
    refine ⟨by simp [numB, h.1], ?_⟩
    have e : natCells .u16 (numB (.agg cs)) = cs.toList := by
      simp only [natCells, numB, List.map_map]
      have h2 := h.2
      generalize cs.toList = l at h2
      induction l with
      | nil => rfl
      | cons u l ih =>
        have h3 := h2 u (by simp)
        rw [List.map_cons, ih (fun x hx => h2 x (by simp [hx]))]
        congr 1
        split at h3
        · rename_i n
          simp only [decide_eq_true_eq] at h3
          simp [Int.toNat_of_nonneg h3]
        · cases h3
    rw [e]
  · cases h
theorem okB_cells (xs : List Nat) (h : xs.length = 128) : okB (.agg (natCells .u16 xs).toArray) = true ∧ numB (.agg (natCells .u16 xs).toArray) = xs := by
  constructor
  · simp [okB, natCells, h]
  · simp only [numB, natCells, List.map_map]
    rw [List.map_congr_left (g := id) (fun x _ => by simp), List.map_id]

theorem ne_block (ρ : Operand → Value) (dst : Option Tmp) (x y : Operand) (t' : TypeId) (pos : String) (af : Array Edge) (g : Option (Nat × Bool)) (W : World) (hx : okB (ρ x) = true) (hy : okB (ρ y) = true) :
    Sem.run Try.prog (execOp ρ { dst := dst, op := .binOp .neq 91 x y 91, type := t', pos := pos, after := af, guard := g }) W = .ok (.value (.bool (!(decide (numB (ρ x) = numB (ρ y)))))) W := by
  obtain ⟨l1, e1⟩ := okB_nat hx
  obtain ⟨l2, e2⟩ := okB_nat hy
  generalize numB (ρ x) = xs at l1 e1
  generalize numB (ρ y) = ys at l2 e2
  unfold execOp
  have hg := run_eqGuard_agg (P := Try.prog) (w := W) .neq 91 x y (natCells .u16 xs).toArray (natCells .u16 ys).toArray (by kernel_rfl)
  have hq := run_equalIn_nats (P := Try.prog) 9998 91 89 128 .u16 Try.underlying91 Try.underlying89 (sizeOf_run size_u16) W xs ys l1 l2
  simp only [e1, e2, Sem.run_bind, hg, run_neq_struct, Result.andThen_ok, hq, Sem.run_pure]

theorem ld_block' (ρ : Operand → Value) (dst : Option Tmp) (x : Operand) (t' : TypeId) (pos : String) (af : Array Edge) (g : Option (Nat × Bool)) (W : World) (h : rangeOk W (ρ x) 128 = true) :
    Sem.run Try.prog (execOp ρ { dst := dst, op := .load 91 x, type := t', pos := pos, after := af, guard := g }) W = .ok (.value (.agg (rangeOf W (ρ x) 128))) W :=
  run_load_range Try.underlying91 rfl size_block ρ dst x t' pos af g W h
theorem rangeOk_drewN (w : World) (v : Value) (n m : Nat) : rangeOk (w.drewN m) v n = rangeOk w v n := rfl
theorem rangeOf_drewN (w : World) (v : Value) (n m : Nat) : rangeOf (w.drewN m) v n = rangeOf w v n := rfl

/-- A block of a table, as it lies. -/
theorem range_tab {w : World} {b g c g' c' : Nat} {t : Tab} (h : TabIn w b g c g' c' t) (k : Nat) (hk : k < t.unlike.length) :
    rangeOk w (.pointer (some ⟨g, k * 128, none⟩)) 128 = true ∧ rangeOf w (.pointer (some ⟨g, k * 128, none⟩)) 128 = (natCells .u16 (t.unlike.getD k [])).toArray := by
  have hl := h.blk k hk
  have e : (natCells .u16 (t.unlike.getD k [])).length = 128 := by simpa [natCells] using hl
  have hr := range_cells (w := w) (b := g) (o := k * 128) (cs := natCells .u16 (t.unlike.getD k [])) (fun j hj => by
    rw [e] at hj
    rw [h.hub k j hk hj]
    have : j < (t.unlike.getD k []).length := by omega
    generalize t.unlike.getD k [] = bl at this
    simp [natCells, List.getD_eq_getElem?_getD, List.getElem?_map, List.getElem?_eq_getElem this])
  rw [e] at hr
  exact hr

theorem quiet_block {a : Act} {o : Oper} {K : Act → Prop} {w : World} {m : Nat} (x : Operand) (ho : o.op = .load 91 x) (v : Value) (hv : a.eval x = v) (hr : rangeOk w v 128 = true) (hk : K (a.put o.dst (.agg (rangeOf w v 128)))) :
    o.quiet Try.prog a (fun w' => ∃ n, w' = (w.drewN m).drewN n) K :=
  ⟨_, fun w' ⟨n, e⟩ => by
    subst e
    unfold Oper.quietAt
    obtain ⟨d, op, ty, pos, af, g⟩ := o
    cases ho
    rw [ld_block' a.eval d x ty pos af g _ (by rw [hv]; exact hr), hv]
    exact ⟨rfl, rfl⟩, hk⟩
theorem quiet_ne {a : Act} {o : Oper} {K : Act → Prop} {w : World} {m : Nat} (x y : Operand) (ho : o.op = .binOp .neq 91 x y 91) (u v : Value) (hu : a.eval x = u) (hv : a.eval y = v) (h1 : okB u = true) (h2 : okB v = true) (r : Bool) (hr : (!(decide (numB u = numB v))) = r) (hk : K (a.put o.dst (.bool r))) :
    o.quiet Try.prog a (fun w' => ∃ n, w' = (w.drewN m).drewN n) K :=
  ⟨_, fun w' ⟨n, e⟩ => by
    subst e
    unfold Oper.quietAt
    obtain ⟨d, op, ty, pos, af, g⟩ := o
    cases ho
    rw [ne_block a.eval d x y ty pos af g _ (by rw [hu]; exact h1) (by rw [hv]; exact h2), hu, hv, hr]
    exact ⟨rfl, rfl⟩, hk⟩

def SamePost (w : World) (r : Bool) (e : Ending) (w' : World) : Prop := e = .returned (.bool r) ∧ Below w.heap.size w w'

set_option maxRecDepth 100000 in
set_option maxHeartbeats 1600000 in
theorem same_calls (w : World) (v1 v2 : Option Addr) (say1 say2 : Nat → Nat) (h1 : Han w v1 say1) (h2 : Han w v2 say2) : Calls Try.prog 29 #[.pointer v1, .pointer v2] w (SamePost w (sameB say1 say2)) := by
  have HW1 := Aside0.mk (whole_calls w v1 say1 h1)
  have HH2 := Aside0.mk h2
  clear h1 h2
  go_enter Try.func29, Try.ntmps29
  go_wp2_with fail
  refine HW1.out.mono ?_
  rintro e w1 ⟨hb1, b1, rfl, ht1⟩
  have HB1 := Aside0.mk hb1
  have HT1 := Aside0.mk ht1
  have HW2 := Aside0.mk (whole_calls w1 v2 say2 (HH2.out.below hb1))
  clear hb1 ht1
  go_wp2_with fail
  refine HW2.out.mono ?_
  rintro e w2 ⟨hb2, b2, rfl, g2, c2, g2', c2', ht2⟩
  obtain ⟨g1, c1, g1', c1', ht1⟩ := HT1.out.below hb2
  have HB2 := Aside0.mk (HB1.out.trans (hb2.mono HB1.out.size))
  have HA := Aside0.mk ht1
  have HC := Aside0.mk ht2
  clear hb2 ht1 ht2 HT1 HW1 HW2 HB1 HH2
  go_wp2
  go_loopg [10] 8705 (fun k v10 wr => ∃ i : Nat, i ≤ 8704 ∧ 8705 - i ≤ k ∧ v10 = .int .i64 (i : Int) ∧ Aside0 (∀ j, j < i → blkOf say1 j = blkOf say2 j) ∧ ∃ m, wr = w2.drewN m)
  case atStart => exact ⟨0, by omega, by omega, rfl, ⟨fun j hj => by omega⟩, 0, rfl⟩
  case round =>
    obtain ⟨i, hi, hk, rfl, hD, m, rfl⟩ := hrel
    by_cases hlt : i < 8704
    · have hlt' : (i : Int) < 8704 := by omega
      have x1 := HA.out.idx i hlt
      have x2 := HC.out.idx i hlt
      have w1c := HA.out.hw i hlt
      have w2c := HC.out.hw i hlt
      have u1 := HA.out.hu
      have u2 := HC.out.hu
      obtain ⟨r1, s1⟩ := range_tab HA.out _ x1
      obtain ⟨r2, s2⟩ := range_tab HC.out _ x2
      rw [tabSay_blk say1 i hlt] at s1
      rw [tabSay_blk say2 i hlt] at s2
      obtain ⟨o1, n1⟩ := okB_cells (blkOf say1 i) (blkOf_len _ _)
      obtain ⟨o2, n2⟩ := okB_cells (blkOf say2 i) (blkOf_len _ _)
      rw [← s1] at o1 n1
      rw [← s2] at o2 n2
      generalize (tabSay say1).which.getD i 0 = k1 at x1 w1c r1 s1 o1 n1
      generalize (tabSay say2).which.getD i 0 = k2 at x2 w2c r2 s2 o2 n2
      generalize (tabSay say1).unlike.length = m1 at x1 u1
      generalize (tabSay say2).unlike.length = m2 at x2 u2
      have x1' : (k1 : Int) < (m1 : Int) := by omega
      have x2' : (k2 : Int) < (m2 : Int) := by omega
      clear s1 s2
      by_cases he : blkOf say1 i = blkOf say2 i
      · have hq : numB (.agg (rangeOf w2 (.pointer (some ⟨g1, k1 * 128, none⟩)) 128)) = numB (.agg (rangeOf w2 (.pointer (some ⟨g2, k2 * 128, none⟩)) 128)) := by rw [n1, n2, he]
        have HD := Aside0.mk (show ∀ j, j < i + 1 → blkOf say1 j = blkOf say2 j from fun j hj => by
          by_cases hji : j < i
          · exact hD.out j hji
          · rw [show j = i by omega]; exact he)
        have hr : (!(decide (numB (.agg (rangeOf w2 (.pointer (some ⟨g1, k1 * 128, none⟩)) 128)) = numB (.agg (rangeOf w2 (.pointer (some ⟨g2, k2 * 128, none⟩)) 128))))) = false := by rw [decide_eq_true hq]; rfl
        clear n1 n2 he hD hq
        go_wp2
        refine wp_region_quiet_lit (by kernel_rfl) (by kernel_rfl) ?_
        repeat (go_big_quiet_step (fail))
        go_big_quiet_want
        refine quiet_block (.tmp 23) rfl _ rfl r1 ?_
        go_big_quiet_on
        simp only [Act.put, List.setIfInBounds_toArray, List.set_cons_zero, List.set_cons_succ]
        repeat (go_big_quiet_step (fail))
        go_big_quiet_want
        refine quiet_block (.tmp 35) rfl _ rfl r2 ?_
        go_big_quiet_on
        simp only [Act.put, List.setIfInBounds_toArray, List.set_cons_zero, List.set_cons_succ]
        go_big_quiet_want
        refine quiet_ne (.tmp 24) (.tmp 36) rfl _ _ rfl rfl o1 o2 false hr ?_
        go_big_quiet_on
        simp only [Act.put, List.setIfInBounds_toArray, List.set_cons_zero, List.set_cons_succ]
        refine wpQuiet_nil ?_
        intro _ hw'
        obtain ⟨nq, hw''⟩ := hw'
        subst hw''
        go_wp2
        go_roundg (gk - 1)
        case measure => omega
        case rel => exact ⟨i + 1, by omega, by omega, by go_num, HD, _, rfl⟩
      · have hq : ¬ numB (.agg (rangeOf w2 (.pointer (some ⟨g1, k1 * 128, none⟩)) 128)) = numB (.agg (rangeOf w2 (.pointer (some ⟨g2, k2 * 128, none⟩)) 128)) := by rw [n1, n2]; exact he
        have HF := Aside0.mk (show sameB say1 say2 = false from by
          rw [← Bool.not_eq_true]
          intro h
          unfold sameB at h
          rw [List.all_eq_true] at h
          have := h i (List.mem_range.2 hlt)
          rw [beq_iff_eq] at this
          exact he this)
        have hr : (!(decide (numB (.agg (rangeOf w2 (.pointer (some ⟨g1, k1 * 128, none⟩)) 128)) = numB (.agg (rangeOf w2 (.pointer (some ⟨g2, k2 * 128, none⟩)) 128))))) = true := by rw [decide_eq_false hq]; rfl
        clear n1 n2 he hD hq
        go_wp2
        refine wp_region_quiet_lit (by kernel_rfl) (by kernel_rfl) ?_
        repeat (go_big_quiet_step (fail))
        go_big_quiet_want
        refine quiet_block (.tmp 23) rfl _ rfl r1 ?_
        go_big_quiet_on
        simp only [Act.put, List.setIfInBounds_toArray, List.set_cons_zero, List.set_cons_succ]
        repeat (go_big_quiet_step (fail))
        go_big_quiet_want
        refine quiet_block (.tmp 35) rfl _ rfl r2 ?_
        go_big_quiet_on
        simp only [Act.put, List.setIfInBounds_toArray, List.set_cons_zero, List.set_cons_succ]
        go_big_quiet_want
        refine quiet_ne (.tmp 24) (.tmp 36) rfl _ _ rfl rfl o1 o2 true hr ?_
        go_big_quiet_on
        simp only [Act.put, List.setIfInBounds_toArray, List.set_cons_zero, List.set_cons_succ]
        refine wpQuiet_nil ?_
        intro _ hw'
        obtain ⟨nq, hw''⟩ := hw'
        subst hw''
        go_wp2
        go_ret
        exact ⟨by rw [HF.out]; rfl, pw_below_drewN (pw_below_drewN HB2.out m) nq⟩
    · have hlt' : ¬ (i : Int) < 8704 := by omega
      have HF := Aside0.mk (show sameB say1 say2 = true from by
        unfold sameB
        rw [List.all_eq_true]
        intro j hj
        rw [beq_iff_eq]
        exact hD.out j (by have := List.mem_range.1 hj; omega))
      clear hD
      go_wp2
      go_ret
      exact ⟨by rw [HF.out]; rfl, pw_below_drewN HB2.out _⟩

end Go.Proofs.Ytajmbafljncjcaa.Stage
