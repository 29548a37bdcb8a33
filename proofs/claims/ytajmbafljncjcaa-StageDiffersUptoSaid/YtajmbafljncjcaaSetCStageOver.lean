/- The document's answer, printed, and plain lists: Runs. Rows, Set, Count of a table. Set, Count of a table. -/
import Derived.Test.YtajmbafljncjcaaRefAStageOver
import Derived.Test.YtajmbafljncjcaaPStageOverx3
import Derived.Test.YtajmbafljncjcaaStD
import Derived.Test.YtajmbafljncjcaaStA
import Derived.Test.YtajmbafljncjcaaStE
import Derived.Test.YtajmbafljncjcaaAwakeStageOver
/-! ### Ref: The document's answer, printed, and plain lists: Runs. -/
namespace Go.Proofs.Ytajmbafljncjcaa.PStageOver
open Go.RowKit Go.Proofs.YtajmbafljncjcaaW.PrintWords Go.Proofs.YtajmbafljncjcaaW.PrintLast Go.Proofs.YtajmbafljncjcaaW.PrintMore Go.Proofs.Ytajmbafljncjcaa.Stage
set_option linter.unusedVariables false
set_option linter.unusedSimpArgs false

theorem add_f (out : List (Nat × Nat × Nat)) (hl : out.length ≤ 4194304) (x : Nat × Nat × Nat) (a b n : Int) (ha : a = x.1) (hb : b = x.2.1) (hn : n = x.2.2) : posternref08_add.f (out.map toS) a b n = some ((addN out x).map toS) := by
  subst ha hb hn
  unfold posternref08_add.f
  rcases List.eq_nil_or_concat out with rfl | ⟨l, y, rfl⟩
  · rw [if_neg (by simp), if_pos (by simp)]
    rfl
  · have e1 : (((l.concat y).map toS).length : Int) = (l.length : Int) + 1 := by simp
    have e1' : ((l.concat y).map toS).length = l.length + 1 := by simp
    have hl' : l.length ≤ 4194304 := by simp at hl; omega
    have e2 : rd_T30 ((l.concat y).map toS) (l.length : Int) = toS y := by
      rw [rd_map _ _ (by simp)]
      simp [List.getD_eq_getElem?_getD]
    have ew : wrap64 ((l.length : Int) + 1 - 1) = (l.length : Int) := by rw [w64 (by omega) (by omega)]; omega
    have h2 : (toS y).f2 = (y.2.2 : Int) := rfl
    have e3 : (l.concat y).map toS = l.map toS ++ [toS y] := by simp
    rw [e1, ew, e2, if_pos (by omega), if_pos (by omega), if_pos (by omega), List.concat_eq_append, addN_snoc]
    by_cases c : y.2.2 = x.2.2
    · rw [if_pos (show (toS y).f2 = (x.2.2 : Int) by rw [h2, c]), if_pos c]
      congr 1
      rw [List.map_append, Int.toNat_natCast]
      simp [List.set_append, toS]
    · rw [if_neg (show ¬ (toS y).f2 = (x.2.2 : Int) by rw [h2]; omega), if_neg c, ← List.concat_eq_append, if_pos (by omega), e3]
      simp [toS]

theorem runs_l {q : List (Nat × Nat × Nat)} (hl : q.length ≤ 1114112) : ∀ (d k i next : Nat) (out : List (Nat × Nat × Nat)), i + d = q.length → d < k → out.length ≤ 2 * i → RiseN next (q.drop i) →
    posternref08_Runs.l0 k (out.map toS) (next : Int) (q.map toS) (q.length : Int) (i : Int) = some ((runsN out next (q.drop i)).map toS) := by
  intro d
  induction d with
  | zero =>
    intro k i next out hi hk ho hr
    obtain ⟨k, rfl⟩ : ∃ m, k = m + 1 := ⟨k - 1, by omega⟩
    simp only [posternref08_Runs.l0]
    rw [if_neg (by omega), List.drop_of_length_le (by omega)]
    simp only [runsN]
    by_cases c : next ≤ 1114111
    · rw [if_pos (by omega), if_pos c, add_f out (by omega) (next, 1114111, 0) (next : Int) 1114111 0 (by simp only) (by simp only; omega) (by simp only; omega)]
      rfl
    · rw [if_neg (by omega), if_neg c]
  | succ d ih =>
    intro k i next out hi hk ho hr
    obtain ⟨k, rfl⟩ : ∃ m, k = m + 1 := ⟨k - 1, by omega⟩
    have hlt : i < q.length := by omega
    have hd : q.drop i = q.getD i z3 :: q.drop (i + 1) := by
      rw [List.drop_eq_getElem_cons hlt]
      simp [List.getD_eq_getElem?_getD, List.getElem?_eq_getElem hlt]
    rw [hd] at hr ⊢
    have hread := rd_map q i hlt
    simp only [posternref08_Runs.l0, List.length_map]
    rw [hread]
    generalize q.getD i z3 = x at hr ⊢
    obtain ⟨r1, r2, r3, r4, r5⟩ := hr
    have h0 : (toS x).f0 = (x.1 : Int) := rfl
    have h1 : (toS x).f1 = (x.2.1 : Int) := rfl
    have h2 : (toS x).f2 = (x.2.2 : Int) := rfl
    generalize toS x = y at h0 h1 h2
    have e1 := Aside0.mk (show wrap64 ((i : Int) + 1) = ((i + 1 : Nat) : Int) by rw [w64 (by omega) (by omega)]; omega)
    have e2 := Aside0.mk (show wrap64 ((x.2.1 : Int) + 1) = ((x.2.1 + 1 : Nat) : Int) by rw [w64 (by omega) (by omega)]; omega)
    have c1 : (i : Int) < (q.length : Int) := by omega
    have c2 : (0 : Int) ≤ (i : Int) := by omega
    simp only [if_pos c1, if_pos c2]
    rw [h0, h1, h2, e1.out, e2.out]
    unfold runsN
    by_cases c : next < x.1
    · have e3 := Aside0.mk (show wrap64 ((x.1 : Int) - 1) = ((x.1 - 1 : Nat) : Int) by rw [w64 (by omega) (by omega)]; omega)
      have hl1 := addN_len out (next, x.1 - 1, 0)
      have hl2 := addN_len (addN out (next, x.1 - 1, 0)) x
      simp only [if_pos (show (x.1 : Int) > (next : Int) by omega), if_pos c]
      rw [e3.out, add_f out (by omega) (next, x.1 - 1, 0) (next : Int) ((x.1 - 1 : Nat) : Int) 0 (by simp only) (by simp only) (by simp only; omega), Option.bind_some, add_f _ (by omega) x (x.1 : Int) (x.2.1 : Int) (x.2.2 : Int) rfl rfl rfl, Option.bind_some]
      exact ih k (i + 1) (x.2.1 + 1) _ (by omega) (by omega) (by omega) r5
    · have hl2 := addN_len out x
      simp only [if_neg (show ¬ (x.1 : Int) > (next : Int) by omega), if_neg c]
      rw [add_f _ (by omega) x (x.1 : Int) (x.2.1 : Int) (x.2.2 : Int) rfl rfl rfl, Option.bind_some]
      exact ih k (i + 1) (x.2.1 + 1) _ (by omega) (by omega) (by omega) r5
theorem runs_f {q : List (Nat × Nat × Nat)} (hl : q.length ≤ 1114112) (hr : RiseN 0 q) : posternref08_Runs.f (q.length + 1) (q.map toS) = some ((runsN [] 0 q).map toS) := by
  unfold posternref08_Runs.f
  rw [List.length_map]
  have h := runs_l hl q.length (q.length + 1) 0 0 [] (by omega) (by omega) (by simp) (by simpa using hr)
  rw [Int.natCast_zero, List.drop_zero, List.map_nil] at h
  exact h

end Go.Proofs.Ytajmbafljncjcaa.PStageOver

/-! ### RowsC: Rows, Set, Count of a table. -/
namespace Go.Proofs.Ytajmbafljncjcaa.PStageOver
open Go.RowKit Go.Proofs.YtajmbafljncjcaaW.PrintWords Go.Proofs.YtajmbafljncjcaaW.PrintLast Go.Proofs.YtajmbafljncjcaaW.PrintMore Go.Proofs.Ytajmbafljncjcaa.Stage Go.Proofs.Ytajmbafljncjcaa.Mp
set_option linter.unusedVariables false
set_option linter.unusedSimpArgs false

def toV (x : Nat × Nat × Nat) : S40 := ⟨x.1, x.2.1, x.2.2⟩

theorem nz_snoc (l : List (Nat × Nat × Nat)) (x : Nat × Nat × Nat) : nz (l ++ [x]) = nz l ++ (if x.2.2 = 0 then [] else [x]) := by
  unfold nz
  rw [List.filter_append]
  by_cases h : x.2.2 = 0 <;> simp [h]
theorem nz_len (l : List (Nat × Nat × Nat)) : (nz l).length ≤ l.length := List.length_filter_le _ _

def RowsSt (w0 : World) (out : List (Nat × Nat × Nat)) (W : World) : Prop := Below w0.heap.size w0 W ∧ ∃ vS, Blk W w0.heap.size [vS] 22 ∧ Kd.R k40 40 W w0.heap.size (fun _ => True) vS ((nz out).map toV)

theorem blk_types {w : World} {k k' : Nat} {cs cs' : List Value} {t t' : TypeId} (h : Blk w k cs t) (h' : Blk w k' cs' t') (hn : t ≠ t') : k ≠ k' := by
  rintro rfl
  have e : some (Obj.cells cs.toArray t (0, 0)) = some (Obj.cells cs'.toArray t' (0, 0)) := (show w.heap[k]? = _ from h).symm.trans h'
  injection e with e
  injection e with _ e
  exact hn e

set_option maxRecDepth 100000 in
set_option maxHeartbeats 1600000 in
theorem rows_does (w0 : World) (v : Option Addr) (say : Nat → Nat) (hh : Han w0 v say) :
    Does say v (RowsSt w0) 52 #[] #[.pointer (some ⟨w0.heap.size, 0, none⟩)] where
  ent := call_enters Try.func52 (by kernel_rfl) (by kernel_rfl)
  han := fun out W h => hh.below h.1
  drew := fun out W n h => ⟨pw_below_drewN h.1 n, by
    obtain ⟨_, vS, h2, h3⟩ := h
    exact ⟨vS, h2, Kd.R_drewN h3 n⟩⟩
  alloc := fun out W o h => ⟨below_alloc h.1 o, by
    obtain ⟨_, vS, h2, h3⟩ := h
    exact ⟨vS, h2.alloc o, Kd.R_alloc h3 o⟩⟩
  does := fun out W a b h hab hb ht => by
    obtain ⟨hB, vS, h2, h3⟩ := h
    show Calls Try.prog _ #[.agg #[.int .i32 (a : Int), .int .i32 (b : Int), .int .i64 (say a : Nat)], .pointer (some ⟨w0.heap.size, 0, none⟩)] W _
    have hlen : (nz out).length ≤ 1114112 := by have := nz_len out; have := ht.length; omega
    have infoV' := infoV
    by_cases hn : say a = 0
    · have hst : RowsSt w0 (out ++ [(a, b, say a)]) (W.alloc (.cells #[.int .i32 (a : Int), .int .i32 (b : Int), .int .i64 ((0 : Nat) : Int)] 40)) :=
        ⟨below_alloc hB _, vS, h2.alloc _, by rw [nz_snoc, if_pos hn, List.append_nil]; exact Kd.R_alloc h3 _⟩
      have HF := Aside0.mk (show RowsSt w0 (out ++ [(a, b, say a)]) (W.alloc (.cells #[.int .i32 (a : Int), .int .i32 (b : Int), .int .i64 ((0 : Nat) : Int)] 40)) ∧ FuncKept W (W.alloc (.cells #[.int .i32 (a : Int), .int .i32 (b : Int), .int .i64 ((0 : Nat) : Int)] 40)) from ⟨hst, fun k cs hk => hk.alloc _⟩)
      clear h2 h3 hB hst
      rw [hn] at *
      go_enter Try.func52, Try.ntmps52
      go_wp2
      go_returns
      exact ⟨⟨_, rfl⟩, HF.out⟩
    · have hn' : ¬ ((say a : Nat) : Int) = 0 := by omega
      have e1 : (nz (out ++ [(a, b, say a)])).map toV = (nz out).map toV ++ [toV (a, b, say a)] := by rw [nz_snoc, if_neg hn, List.map_append]; rfl
      have HE := Aside0.mk e1
      have h2a := h2.alloc (.cells #[.int .i32 (a : Int), .int .i32 (b : Int), .int .i64 (say a : Nat)] 40)
      have hcell := h2a.cell 0
      have HBk := Aside0.mk h2a
      have HR := Aside0.mk (Kd.R_alloc h3 (.cells #[.int .i32 (a : Int), .int .i32 (b : Int), .int .i64 (say a : Nat)] 40))
      have HB := Aside0.mk (below_alloc hB (.cells #[.int .i32 (a : Int), .int .i32 (b : Int), .int .i64 (say a : Nat)] 40))
      have hxl : ((nz out).map toV).length ≤ 1114112 := by rw [List.length_map]; exact hlen
      generalize (nz out).map toV = xs at HE HR hxl
      have HN := Aside0.mk hn
      clear e1 h2 h2a h3 hB hlen ht
      go_enter Try.func52, Try.ntmps52
      go_wp2_with (first | ((with_reducible refine gate_builtin (b := .append) (xs := #[.tmp 6, .tmp 8]) rfl ?_); at_builtin; refine Kd.R_append k40 (w0 := w0) w0.heap.size rfl (.tmp 6) (.tmp 8) 22 40 (.agg #[.int .i32 0, .int .i32 0, .int .i64 0]) 16 rfl Try.underlying22 infoV' rfl (by decide) (by omega) vS xs (toV (a, b, say a)) [.int .i32 (a : Int), .int .i32 (b : Int), .int .i64 (say a : Nat)] (fun _ => True) (fun _ => False) rfl (by first | (go_simp; done) | (go_simp; rfl)) (k40_mkM _ _ _ (toV (a, b, say a))) (fun _ hk => hk.elim) (fun _ _ => trivial) HR.out HB.out HB.out.size (by omega) ?_; intro v1 w1 ho1 hb1 hg1 hat1; obtain ⟨A1, c1, hvv⟩ := Kd.R_slice ho1; generalize (xs ++ [toV (a, b, say a)]).length = n1 at hvv; subst hvv; have HO1 := Aside0.mk ho1; have HB1 := Aside0.mk hb1; have HG1 := Aside0.mk hg1; have HBk1 := Aside0.mk (show Blk w1 w0.heap.size [vS] 22 from blk_grown HBk.out hg1 (Kd.R_ne HR.out HBk.out (by decide))); have hcell1 := HBk1.out.cell 0; have hfr1 := blk_frozen HBk1.out 0; clear ho1 hb1 hg1 hat1 hcell))
      have HF := Aside0.mk (show RowsSt w0 (out ++ [(a, b, say a)]) (w1.setCell ⟨w0.heap.size, 0, none⟩ (.slice A1 n1 c1)) ∧ FuncKept W (w1.setCell ⟨w0.heap.size, 0, none⟩ (.slice A1 n1 c1)) from
        ⟨⟨below_set HB1.out (Nat.le_refl _), (.slice A1 n1 c1), HBk1.out.set 0 (.slice A1 n1 c1), by rw [HE.out]; exact Kd.R_set HO1.out HBk1.out (by decide) 0 (.slice A1 n1 c1)⟩, fun k cs hk => by
          have hk1 := hk.alloc (.cells #[.int .i32 (a : Int), .int .i32 (b : Int), .int .i64 (say a : Nat)] 40)
          have hk2 : Blk w1 k cs 98 := blk_grown hk1 HG1.out (Kd.R_ne HR.out hk1 (by decide))
          exact (Below.heap_setCell w1 _ (.slice A1 n1 c1) k (blk_types hk2 HBk1.out (by decide))).trans hk2⟩)
      go_wp2
      go_returns
      exact ⟨⟨_, rfl⟩, HF.out⟩

def RowsPost (w : World) (say : Nat → Nat) (e : Ending) (w' : World) : Prop :=
  Below w.heap.size w w' ∧ ∃ vS rs, e = .returned vS ∧ Til say 1114112 0 rs ∧ Kd.R k40 40 w' w.heap.size (fun _ => True) vS ((nz rs).map toV)

theorem zero_sliceV : (Try.prog.info? 22).map (·.zero) = some (some (.slice none 0 0)) := by kernel_rfl

set_option maxRecDepth 100000 in
theorem rows_calls (w : World) (v : Option Addr) (say : Nat → Nat) (hh : Han w v say) : Calls Try.prog 21 #[.pointer v] w (RowsPost w say) := by
  have HR := Aside0.mk (runs_calls (rows_does w v say hh) (w.alloc (.cells #[.slice none 0 0] 22)) ⟨below_alloc (Below.refl _ _) _, _, blk_new w [.slice none 0 0] 22, Kd.R_nil _ _ _ _ _⟩)
  have hmf : ∀ (fn : Fn) (first cap : Array Value) (w : World), (Instr.makeFunc fn first cap).run Try.prog w = .ok (.func fn first cap) w := fun _ _ _ _ => rfl
  clear hh
  go_enter Try.func21, Try.ntmps21
  go_wp2_with fail
  refine HR.out.mono ?_
  rintro e w1 ⟨⟨x, rfl⟩, rs, ht, hb, vS, h2, h3⟩
  have hcell := h2.cell 0
  have HF := Aside0.mk (show RowsPost w say (.returned vS) w1 from ⟨hb, vS, rs, rfl, ht, h3⟩)
  clear ht hb h2 h3
  go_wp2
  go_returns
  exact HF.out

end Go.Proofs.Ytajmbafljncjcaa.PStageOver

/-! ### SetC: Set, Count of a table. -/
namespace Go.Proofs.Ytajmbafljncjcaa.PStageOver
open Go.RowKit Go.Proofs.YtajmbafljncjcaaW.PrintWords Go.Proofs.YtajmbafljncjcaaW.PrintLast Go.Proofs.YtajmbafljncjcaaW.PrintMore Go.Proofs.Ytajmbafljncjcaa.Stage Go.Proofs.Ytajmbafljncjcaa.Mp
set_option linter.unusedVariables false
set_option linter.unusedSimpArgs false

def toP (x : Nat × Nat × Nat) : S47 := ⟨x.1, x.2.1⟩
/-- The stretches of one number. -/
def ofN (n : Int) (l : List (Nat × Nat × Nat)) : List (Nat × Nat × Nat) := l.filter fun x => (x.2.2 : Int) == n
/-- How many code points they have. -/
def manyN (n : Int) : List (Nat × Nat × Nat) → Nat
  | [] => 0
  | x :: l => (if (x.2.2 : Int) = n then x.2.1 - x.1 + 1 else 0) + manyN n l

theorem ofN_snoc (n : Int) (l : List (Nat × Nat × Nat)) (x : Nat × Nat × Nat) : ofN n (l ++ [x]) = ofN n l ++ (if (x.2.2 : Int) = n then [x] else []) := by
  unfold ofN
  rw [List.filter_append]
  by_cases h : (x.2.2 : Int) = n <;> simp [h]
theorem ofN_len (n : Int) (l : List (Nat × Nat × Nat)) : (ofN n l).length ≤ l.length := List.length_filter_le _ _
theorem manyN_snoc (n : Int) (x : Nat × Nat × Nat) : ∀ (l : List (Nat × Nat × Nat)), manyN n (l ++ [x]) = manyN n l + (if (x.2.2 : Int) = n then x.2.1 - x.1 + 1 else 0)
  | [] => by simp [manyN]
  | y :: l => by simp only [List.cons_append, manyN, manyN_snoc n x l]; omega
theorem manyN_le (n : Int) {say : Nat → Nat} {hi : Nat} : ∀ {l : List (Nat × Nat × Nat)} {low : Nat}, Til say hi low l → low + manyN n l ≤ hi
  | [], low, h => Nat.le_of_eq h
  | x :: l, low, h => by
    have := manyN_le n h.2.2.2.2
    have h1 := h.1
    have h2 := h.2.1
    simp only [manyN]
    split <;> omega

theorem infoP : (Try.prog.info? 47).map (fun i => (i.zero, i.size, i.bytes)) = some (some (.agg #[(.int .i32 0), (.int .i32 0)]), 2, 8) := by kernel_rfl

def SetSt (w0 : World) (n : Int) (out : List (Nat × Nat × Nat)) (W : World) : Prop :=
  Below w0.heap.size w0 W ∧ Blk W w0.heap.size [.int .i64 n] 3 ∧ ∃ vS, Blk W (w0.heap.size + 1) [vS] 42 ∧ Kd.R k47 47 W w0.heap.size (fun _ => True) vS ((ofN n out).map toP)

set_option maxRecDepth 100000 in
set_option maxHeartbeats 1600000 in
theorem set_does (w0 : World) (v : Option Addr) (say : Nat → Nat) (hh : Han w0 v say) (n : Int) :
    Does say v (SetSt w0 n) 53 #[] #[.pointer (some ⟨w0.heap.size, 0, none⟩), .pointer (some ⟨w0.heap.size + 1, 0, none⟩)] where
  ent := call_enters Try.func53 (by kernel_rfl) (by kernel_rfl)
  han := fun out W h => hh.below h.1
  drew := fun out W n h => ⟨pw_below_drewN h.1 n, h.2.1, by
    obtain ⟨_, _, vS, h2, h3⟩ := h
    exact ⟨vS, h2, Kd.R_drewN h3 n⟩⟩
  alloc := fun out W o h => ⟨below_alloc h.1 o, h.2.1.alloc o, by
    obtain ⟨_, _, vS, h2, h3⟩ := h
    exact ⟨vS, h2.alloc o, Kd.R_alloc h3 o⟩⟩
  does := fun out W a b h hab hb ht => by
    obtain ⟨hB, h1, vS, h2, h3⟩ := h
    show Calls Try.prog _ #[.agg #[.int .i32 (a : Int), .int .i32 (b : Int), .int .i64 (say a : Nat)], .pointer (some ⟨w0.heap.size, 0, none⟩), .pointer (some ⟨w0.heap.size + 1, 0, none⟩)] W _
    have hlen : (ofN n out).length ≤ 1114112 := by have := ofN_len n out; have := ht.length; omega
    have infoP' := infoP
    have h1a := h1.alloc (.cells #[.int .i32 (a : Int), .int .i32 (b : Int), .int .i64 (say a : Nat)] 40)
    have hcn := h1a.cell 0
    by_cases hn : ((say a : Nat) : Int) = n
    · have e1 : (ofN n (out ++ [(a, b, say a)])).map toP = (ofN n out).map toP ++ [toP (a, b, say a)] := by rw [ofN_snoc, if_pos hn, List.map_append]; rfl
      have HE := Aside0.mk e1
      have h2a := h2.alloc (.cells #[.int .i32 (a : Int), .int .i32 (b : Int), .int .i64 (say a : Nat)] 40)
      have hcell := h2a.cell 0
      have HBk := Aside0.mk h2a
      have HBn := Aside0.mk h1a
      have HR := Aside0.mk (Kd.R_alloc h3 (.cells #[.int .i32 (a : Int), .int .i32 (b : Int), .int .i64 (say a : Nat)] 40))
      have HB := Aside0.mk (below_alloc hB (.cells #[.int .i32 (a : Int), .int .i32 (b : Int), .int .i64 (say a : Nat)] 40))
      have hxl : ((ofN n out).map toP).length ≤ 1114112 := by rw [List.length_map]; exact hlen
      generalize (ofN n out).map toP = xs at HE HR hxl
      clear e1 h1 h1a h2 h2a h3 hB hlen ht
      subst hn
      go_enter Try.func53, Try.ntmps53
      go_wp2_with (first | ((with_reducible refine gate_builtin (b := .append) (xs := #[.tmp 8, .tmp 14]) rfl ?_); at_builtin; refine Kd.R_append k47 (w0 := w0) w0.heap.size rfl (.tmp 8) (.tmp 14) 42 47 (.agg #[.int .i32 0, .int .i32 0]) 8 rfl Try.underlying42 infoP' rfl (by decide) (by omega) vS xs (toP (a, b, say a)) [.int .i32 (a : Int), .int .i32 (b : Int)] (fun _ => True) (fun _ => False) rfl (by first | (go_simp; done) | (go_simp; rfl)) (k47_mkM _ _ _ (toP (a, b, say a))) (fun _ hk => hk.elim) (fun _ _ => trivial) HR.out HB.out HB.out.size (by omega) ?_; intro v1 w1 ho1 hb1 hg1 hat1; obtain ⟨A1, c1, hvv⟩ := Kd.R_slice ho1; generalize (xs ++ [toP (a, b, say a)]).length = n1 at hvv; subst hvv; have HO1 := Aside0.mk ho1; have HB1 := Aside0.mk hb1; have HG1 := Aside0.mk hg1; have HBk1 := Aside0.mk (show Blk w1 (w0.heap.size + 1) [vS] 42 from blk_grown HBk.out hg1 (Kd.R_ne HR.out HBk.out (by decide))); have HBn1 := Aside0.mk (show Blk w1 w0.heap.size [.int .i64 (say a : Nat)] 3 from blk_grown HBn.out hg1 (Kd.R_ne HR.out HBn.out (by decide))); have hcell1 := HBk1.out.cell 0; have hfr1 := blk_frozen HBk1.out 0; clear ho1 hb1 hg1 hat1 hcell))
      have HF := Aside0.mk (show SetSt w0 ((say a : Nat) : Int) (out ++ [(a, b, say a)]) (w1.setCell ⟨w0.heap.size + 1, 0, none⟩ (.slice A1 n1 c1)) ∧ FuncKept W (w1.setCell ⟨w0.heap.size + 1, 0, none⟩ (.slice A1 n1 c1)) from
        ⟨⟨below_set HB1.out (by omega), HBn1.out.other (by simp) _, (.slice A1 n1 c1), HBk1.out.set 0 (.slice A1 n1 c1), by rw [HE.out]; exact Kd.R_set HO1.out HBk1.out (by decide) 0 (.slice A1 n1 c1)⟩, fun k cs hk => by
          have hk1 := hk.alloc (.cells #[.int .i32 (a : Int), .int .i32 (b : Int), .int .i64 (say a : Nat)] 40)
          have hk2 : Blk w1 k cs 98 := blk_grown hk1 HG1.out (Kd.R_ne HR.out hk1 (by decide))
          exact (Below.heap_setCell w1 _ (.slice A1 n1 c1) k (blk_types hk2 HBk1.out (by decide))).trans hk2⟩)
      go_wp2
      go_returns
      exact ⟨⟨_, rfl⟩, HF.out⟩
    · have hst : SetSt w0 n (out ++ [(a, b, say a)]) (W.alloc (.cells #[.int .i32 (a : Int), .int .i32 (b : Int), .int .i64 (say a : Nat)] 40)) :=
        ⟨below_alloc hB _, h1a, vS, h2.alloc _, by rw [ofN_snoc, if_neg hn, List.append_nil]; exact Kd.R_alloc h3 _⟩
      have HF := Aside0.mk (show SetSt w0 n (out ++ [(a, b, say a)]) (W.alloc (.cells #[.int .i32 (a : Int), .int .i32 (b : Int), .int .i64 (say a : Nat)] 40)) ∧ FuncKept W (W.alloc (.cells #[.int .i32 (a : Int), .int .i32 (b : Int), .int .i64 (say a : Nat)] 40)) from ⟨hst, fun k cs hk => hk.alloc _⟩)
      clear h1 h1a h2 h3 hB hst
      go_enter Try.func53, Try.ntmps53
      go_wp2
      go_returns
      exact ⟨⟨_, rfl⟩, HF.out⟩

def SetPost (w : World) (say : Nat → Nat) (n : Int) (e : Ending) (w' : World) : Prop :=
  Below w.heap.size w w' ∧ ∃ vS rs, e = .returned vS ∧ Til say 1114112 0 rs ∧ Kd.R k47 47 w' w.heap.size (fun _ => True) vS ((ofN n rs).map toP)

set_option maxRecDepth 100000 in
theorem set_calls (w : World) (v : Option Addr) (say : Nat → Nat) (hh : Han w v say) (n : Int) : Calls Try.prog 22 #[.pointer v, .int .i64 n] w (SetPost w say n) := by
  have HR := Aside0.mk (runs_calls (set_does w v say hh n) ((w.alloc (.cells #[.int .i64 n] 3)).alloc (.cells #[.slice none 0 0] 42)) ⟨below_alloc (below_alloc (Below.refl _ _) _) _, (blk_new w [.int .i64 n] 3).alloc _, _, by
    have := blk_new (w.alloc (.cells #[.int .i64 n] 3)) [.slice none 0 0] 42
    rw [alloc_size] at this
    exact this, Kd.R_nil _ _ _ _ _⟩)
  have hmf : ∀ (fn : Fn) (first cap : Array Value) (w : World), (Instr.makeFunc fn first cap).run Try.prog w = .ok (.func fn first cap) w := fun _ _ _ _ => rfl
  clear hh
  go_enter Try.func22, Try.ntmps22
  go_wp2_with fail
  refine HR.out.mono ?_
  rintro e w1 ⟨⟨x, rfl⟩, rs, ht, hb, h1, vS, h2, h3⟩
  have hcell := h2.cell 0
  have HF := Aside0.mk (show SetPost w say n (.returned vS) w1 from ⟨hb, vS, rs, rfl, ht, h3⟩)
  clear ht hb h1 h2 h3
  go_wp2
  go_returns
  exact HF.out

def CountSt (w0 : World) (n : Int) (out : List (Nat × Nat × Nat)) (W : World) : Prop :=
  Below w0.heap.size w0 W ∧ Blk W w0.heap.size [.int .i64 n] 3 ∧ Blk W (w0.heap.size + 1) [.int .i64 (manyN n out : Nat)] 3

set_option maxRecDepth 100000 in
set_option maxHeartbeats 1600000 in
theorem count_does (w0 : World) (v : Option Addr) (say : Nat → Nat) (hh : Han w0 v say) (n : Int) :
    Does say v (CountSt w0 n) 91 #[] #[.pointer (some ⟨w0.heap.size, 0, none⟩), .pointer (some ⟨w0.heap.size + 1, 0, none⟩)] where
  ent := call_enters Try.func91 (by kernel_rfl) (by kernel_rfl)
  han := fun out W h => hh.below h.1
  drew := fun out W n h => ⟨pw_below_drewN h.1 n, h.2.1, h.2.2⟩
  alloc := fun out W o h => ⟨below_alloc h.1 o, h.2.1.alloc o, h.2.2.alloc o⟩
  does := fun out W a b h hab hb ht => by
    obtain ⟨hB, h1, h2⟩ := h
    show Calls Try.prog _ #[.agg #[.int .i32 (a : Int), .int .i32 (b : Int), .int .i64 (say a : Nat)], .pointer (some ⟨w0.heap.size, 0, none⟩), .pointer (some ⟨w0.heap.size + 1, 0, none⟩)] W _
    have hm := manyN_le n ht
    have h1a := h1.alloc (.cells #[.int .i32 (a : Int), .int .i32 (b : Int), .int .i64 (say a : Nat)] 40)
    have h2a := h2.alloc (.cells #[.int .i32 (a : Int), .int .i32 (b : Int), .int .i64 (say a : Nat)] 40)
    have hcn := h1a.cell 0
    have hcm := h2a.cell 0
    have hfr := blk_frozen h2a 0
    have hB1 := below_alloc hB (.cells #[.int .i32 (a : Int), .int .i32 (b : Int), .int .i64 (say a : Nat)] 40)
    by_cases hn : ((say a : Nat) : Int) = n
    · have e1 : manyN n (out ++ [(a, b, say a)]) = manyN n out + (b - a + 1) := by rw [manyN_snoc, if_pos hn]
      have hw : IntKind.i32.wrap ((b : Int) - (a : Int)) = ((b - a : Nat) : Int) := by rw [IntWalk.i32_in _ (by omega)]; omega
      have hst : ∀ x : Int, x = ((manyN n out + (b - a + 1) : Nat) : Int) → CountSt w0 n (out ++ [(a, b, say a)]) ((W.alloc (.cells #[.int .i32 (a : Int), .int .i32 (b : Int), .int .i64 (say a : Nat)] 40)).setCell ⟨w0.heap.size + 1, 0, none⟩ (.int .i64 x)) ∧
          FuncKept W ((W.alloc (.cells #[.int .i32 (a : Int), .int .i32 (b : Int), .int .i64 (say a : Nat)] 40)).setCell ⟨w0.heap.size + 1, 0, none⟩ (.int .i64 x)) := fun x hx => by
        subst hx
        refine ⟨⟨below_set hB1 (by omega), h1a.other (by simp) _, by rw [e1]; exact h2a.set 0 _⟩, fun k cs hk => ?_⟩
        exact (Below.heap_setCell _ _ _ k (blk_types (hk.alloc _) h2a (by decide))).trans (hk.alloc _)
      have HF := Aside0.mk hst
      generalize manyN n out = m at hm hcm HF
      clear h1 h1a h2 h2a hB hB1 hst e1 ht
      subst hn
      go_enter Try.func91, Try.ntmps91
      go_wp2
      go_returns
      exact ⟨⟨_, rfl⟩, HF.out _ (by omega)⟩
    · have hst : CountSt w0 n (out ++ [(a, b, say a)]) (W.alloc (.cells #[.int .i32 (a : Int), .int .i32 (b : Int), .int .i64 (say a : Nat)] 40)) :=
        ⟨hB1, h1a, by rw [manyN_snoc, if_neg hn, Nat.add_zero]; exact h2a⟩
      have HF := Aside0.mk (show CountSt w0 n (out ++ [(a, b, say a)]) (W.alloc (.cells #[.int .i32 (a : Int), .int .i32 (b : Int), .int .i64 (say a : Nat)] 40)) ∧ FuncKept W (W.alloc (.cells #[.int .i32 (a : Int), .int .i32 (b : Int), .int .i64 (say a : Nat)] 40)) from ⟨hst, fun k cs hk => hk.alloc _⟩)
      clear h1 h1a h2 h2a hB hB1 hst
      go_enter Try.func91, Try.ntmps91
      go_wp2
      go_returns
      exact ⟨⟨_, rfl⟩, HF.out⟩

def CountPost (w : World) (say : Nat → Nat) (n : Int) (e : Ending) (w' : World) : Prop :=
  Below w.heap.size w w' ∧ ∃ rs, e = .returned (.int .i64 (manyN n rs : Nat)) ∧ Til say 1114112 0 rs

set_option maxRecDepth 100000 in
theorem count_calls (w : World) (v : Option Addr) (say : Nat → Nat) (hh : Han w v say) (n : Int) : Calls Try.prog 55 #[.pointer v, .int .i64 n] w (CountPost w say n) := by
  have HR := Aside0.mk (runs_calls (count_does w v say hh n) ((w.alloc (.cells #[.int .i64 n] 3)).alloc (.cells #[.int .i64 0] 3)) ⟨below_alloc (below_alloc (Below.refl _ _) _) _, (blk_new w [.int .i64 n] 3).alloc _, by
    have := blk_new (w.alloc (.cells #[.int .i64 n] 3)) [.int .i64 0] 3
    rw [alloc_size] at this
    exact this⟩)
  have hmf : ∀ (fn : Fn) (first cap : Array Value) (w : World), (Instr.makeFunc fn first cap).run Try.prog w = .ok (.func fn first cap) w := fun _ _ _ _ => rfl
  clear hh
  go_enter Try.func55, Try.ntmps55
  go_wp2_with fail
  refine HR.out.mono ?_
  rintro e w1 ⟨⟨x, rfl⟩, rs, ht, hb, h1, h2⟩
  have hcell := h2.cell 0
  have HF := Aside0.mk (show CountPost w say n (.returned (.int .i64 (manyN n rs : Nat))) w1 from ⟨hb, rs, rfl, ht⟩)
  clear ht hb h1 h2
  go_wp2
  go_returns
  exact HF.out

end Go.Proofs.Ytajmbafljncjcaa.PStageOver
