/- Rows, Set, Count of a table. -/
import Derived.Test.YtajmbafljncjcaaStE
import Derived.Test.YtajmbafljncjcaaAwakeStageOver
namespace Go.Proofs.Ytajmbafljncjcaa.PStageOver
open Go.RowKit Go.Proofs.YtajmbafljncjcaaW.PrintWords Go.Proofs.YtajmbafljncjcaaW.PrintLast Go.Proofs.YtajmbafljncjcaaW.PrintMore Go.Proofs.Ytajmbafljncjcaa.Stage Go.Proofs.Ytajmbafljncjcaa.Mp
set_option linter.unusedVariables false
set_option linter.unusedSimpArgs false

def toV (x : Nat × Nat × Nat) : S40 := ⟨x.1, x.2.1, x.2.2⟩

theorem nz_snoc (l : List (Nat × Nat × Nat)) (x : Nat × Nat × Nat) : nz (l ++ [x]) = nz l ++ (if x.2.2 = 0 then [] else [x]) := by
  unfold nz
  rw [List.filter_append]
  by_cases h : x.2.2 = 0 <;> simp [h]
theorem nz_len (l : List (Nat × Nat × Nat)) : (nz l).length ≤ l.length := List.length_filter_le _ _

def RowsSt (w0 : World) (out : List (Nat × Nat × Nat)) (W : World) : Prop := Below w0.heap.size w0 W ∧ ∃ vS, Blk W w0.heap.size [vS] 22 ∧ Kd.R k40 40 W w0.heap.size (fun _ => True) vS ((nz out).map toV)

theorem blk_types {w : World} {k k' : Nat} {cs cs' : List Value} {t t' : TypeId} (h : Blk w k cs t) (h' : Blk w k' cs' t') (hn : t ≠ t') : k ≠ k' := by
  rintro rfl
  have e : some (Obj.cells cs.toArray t (0, 0)) = some (Obj.cells cs'.toArray t' (0, 0)) := (show w.heap[k]? = _ from h).symm.trans h'
  injection e with e
  injection e with _ e
  exact hn e

set_option maxRecDepth 100000 in
set_option maxHeartbeats 1600000 in
theorem rows_does (w0 : World) (v : Option Addr) (say : Nat → Nat) (hh : Han w0 v say) :
    Does say v (RowsSt w0) 52 #[] #[.pointer (some ⟨w0.heap.size, 0, none⟩)] where
  ent := call_enters Try.func52 (by kernel_rfl) (by kernel_rfl)
  han := fun out W h => hh.below h.1
  drew := fun out W n h => ⟨pw_below_drewN h.1 n, by
    obtain ⟨_, vS, h2, h3⟩ := h
    exact ⟨vS, h2, Kd.R_drewN h3 n⟩⟩
  alloc := fun out W o h => ⟨below_alloc h.1 o, by
    obtain ⟨_, vS, h2, h3⟩ := h
    exact ⟨vS, h2.alloc o, Kd.R_alloc h3 o⟩⟩
  does := fun out W a b h hab hb ht => by
    obtain ⟨hB, vS, h2, h3⟩ := h
    show Calls Try.prog _ #[.agg #[.int .i32 (a : Int), .int .i32 (b : Int), .int .i64 (say a : Nat)], .pointer (some ⟨w0.heap.size, 0, none⟩)] W _
    have hlen : (nz out).length ≤ 1114112 := by have := nz_len out; have := ht.length; omega
    have infoV' := infoV
    by_cases hn : say a = 0
    · have hst : RowsSt w0 (out ++ [(a, b, say a)]) (W.alloc (.cells #[.int .i32 (a : Int), .int .i32 (b : Int), .int .i64 ((0 : Nat) : Int)] 40)) :=
        ⟨below_alloc hB _, vS, h2.alloc _, by rw [nz_snoc, if_pos hn, List.append_nil]; exact Kd.R_alloc h3 _⟩
      have HF := Aside0.mk (show RowsSt w0 (out ++ [(a, b, say a)]) (W.alloc (.cells #[.int .i32 (a : Int), .int .i32 (b : Int), .int .i64 ((0 : Nat) : Int)] 40)) ∧ FuncKept W (W.alloc (.cells #[.int .i32 (a : Int), .int .i32 (b : Int), .int .i64 ((0 : Nat) : Int)] 40)) from ⟨hst, fun k cs hk => hk.alloc _⟩)
      clear h2 h3 hB hst
      rw [hn] at *
      go_enter Try.func52, Try.ntmps52
      go_wp2
      go_returns
      exact ⟨⟨_, rfl⟩, HF.out⟩
    · have hn' : ¬ ((say a : Nat) : Int) = 0 := by omega
      have e1 : (nz (out ++ [(a, b, say a)])).map toV = (nz out).map toV ++ [toV (a, b, say a)] := by rw [nz_snoc, if_neg hn, List.map_append]; rfl
      have HE := Aside0.mk e1
      have h2a := h2.alloc (.cells #[.int .i32 (a : Int), .int .i32 (b : Int), .int .i64 (say a : Nat)] 40)
      have hcell := h2a.cell 0
      have HBk := Aside0.mk h2a
      have HR := Aside0.mk (Kd.R_alloc h3 (.cells #[.int .i32 (a : Int), .int .i32 (b : Int), .int .i64 (say a : Nat)] 40))
      have HB := Aside0.mk (below_alloc hB (.cells #[.int .i32 (a : Int), .int .i32 (b : Int), .int .i64 (say a : Nat)] 40))
      have hxl : ((nz out).map toV).length ≤ 1114112 := by rw [List.length_map]; exact hlen
      generalize (nz out).map toV = xs at HE HR hxl
      have HN := Aside0.mk hn
      clear e1 h2 h2a h3 hB hlen ht
      go_enter Try.func52, Try.ntmps52
      go_wp2_with (first | ((with_reducible refine gate_builtin (b := .append) (xs := #[.tmp 6, .tmp 8]) rfl ?_); at_builtin; refine Kd.R_append k40 (w0 := w0) w0.heap.size rfl (.tmp 6) (.tmp 8) 22 40 (.agg #[.int .i32 0, .int .i32 0, .int .i64 0]) 16 rfl Try.underlying22 infoV' rfl (by decide) (by omega) vS xs (toV (a, b, say a)) [.int .i32 (a : Int), .int .i32 (b : Int), .int .i64 (say a : Nat)] (fun _ => True) (fun _ => False) rfl (by first | (go_simp; done) | (go_simp; rfl)) (k40_mkM _ _ _ (toV (a, b, say a))) (fun _ hk => hk.elim) (fun _ _ => trivial) HR.out HB.out HB.out.size (by omega) ?_; intro v1 w1 ho1 hb1 hg1 hat1; obtain ⟨A1, c1, hvv⟩ := Kd.R_slice ho1; generalize (xs ++ [toV (a, b, say a)]).length = n1 at hvv; subst hvv; have HO1 := Aside0.mk ho1; have HB1 := Aside0.mk hb1; have HG1 := Aside0.mk hg1; have HBk1 := Aside0.mk (show Blk w1 w0.heap.size [vS] 22 from blk_grown HBk.out hg1 (Kd.R_ne HR.out HBk.out (by decide))); have hcell1 := HBk1.out.cell 0; have hfr1 := blk_frozen HBk1.out 0; clear ho1 hb1 hg1 hat1 hcell))
      have HF := Aside0.mk (show RowsSt w0 (out ++ [(a, b, say a)]) (w1.setCell ⟨w0.heap.size, 0, none⟩ (.slice A1 n1 c1)) ∧ FuncKept W (w1.setCell ⟨w0.heap.size, 0, none⟩ (.slice A1 n1 c1)) from
        ⟨⟨below_set HB1.out (Nat.le_refl _), (.slice A1 n1 c1), HBk1.out.set 0 (.slice A1 n1 c1), by rw [HE.out]; exact Kd.R_set HO1.out HBk1.out (by decide) 0 (.slice A1 n1 c1)⟩, fun k cs hk => by
          have hk1 := hk.alloc (.cells #[.int .i32 (a : Int), .int .i32 (b : Int), .int .i64 (say a : Nat)] 40)
          have hk2 : Blk w1 k cs 98 := blk_grown hk1 HG1.out (Kd.R_ne HR.out hk1 (by decide))
          exact (Below.heap_setCell w1 _ (.slice A1 n1 c1) k (blk_types hk2 HBk1.out (by decide))).trans hk2⟩)
      go_wp2
      go_returns
      exact ⟨⟨_, rfl⟩, HF.out⟩

def RowsPost (w : World) (say : Nat → Nat) (e : Ending) (w' : World) : Prop :=
  Below w.heap.size w w' ∧ ∃ vS rs, e = .returned vS ∧ Til say 1114112 0 rs ∧ Kd.R k40 40 w' w.heap.size (fun _ => True) vS ((nz rs).map toV)

theorem zero_sliceV : (Try.prog.info? 22).map (·.zero) = some (some (.slice none 0 0)) := by kernel_rfl

set_option maxRecDepth 100000 in
theorem rows_calls (w : World) (v : Option Addr) (say : Nat → Nat) (hh : Han w v say) : Calls Try.prog 21 #[.pointer v] w (RowsPost w say) := by
  have HR := Aside0.mk (runs_calls (rows_does w v say hh) (w.alloc (.cells #[.slice none 0 0] 22)) ⟨below_alloc (Below.refl _ _) _, _, blk_new w [.slice none 0 0] 22, Kd.R_nil _ _ _ _ _⟩)
  have hmf : ∀ (fn : Fn) (first cap : Array Value) (w : World), (Instr.makeFunc fn first cap).run Try.prog w = .ok (.func fn first cap) w := fun _ _ _ _ => rfl
  clear hh
  go_enter Try.func21, Try.ntmps21
  go_wp2_with fail
  refine HR.out.mono ?_
  rintro e w1 ⟨⟨x, rfl⟩, rs, ht, hb, vS, h2, h3⟩
  have hcell := h2.cell 0
  have HF := Aside0.mk (show RowsPost w say (.returned vS) w1 from ⟨hb, vS, rs, rfl, ht, h3⟩)
  clear ht hb h2 h3
  go_wp2
  go_returns
  exact HF.out

end Go.Proofs.Ytajmbafljncjcaa.PStageOver
