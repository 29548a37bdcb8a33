/- Set, Count of a table. -/
import Derived.Test.YtajmbafljncjcaaRowsCStageOver
namespace Go.Proofs.Ytajmbafljncjcaa.PStageOver
open Go.RowKit Go.Proofs.YtajmbafljncjcaaW.PrintWords Go.Proofs.YtajmbafljncjcaaW.PrintLast Go.Proofs.YtajmbafljncjcaaW.PrintMore Go.Proofs.Ytajmbafljncjcaa.Stage Go.Proofs.Ytajmbafljncjcaa.Mp
set_option linter.unusedVariables false
set_option linter.unusedSimpArgs false

def toP (x : Nat × Nat × Nat) : S47 := ⟨x.1, x.2.1⟩
/-- The stretches of one number. -/
def ofN (n : Int) (l : List (Nat × Nat × Nat)) : List (Nat × Nat × Nat) := l.filter fun x => (x.2.2 : Int) == n
/-- How many code points they have. -/
def manyN (n : Int) : List (Nat × Nat × Nat) → Nat
  | [] => 0
  | x :: l => (if (x.2.2 : Int) = n then x.2.1 - x.1 + 1 else 0) + manyN n l

theorem ofN_snoc (n : Int) (l : List (Nat × Nat × Nat)) (x : Nat × Nat × Nat) : ofN n (l ++ [x]) = ofN n l ++ (if (x.2.2 : Int) = n then [x] else []) := by
  unfold ofN
  rw [List.filter_append]
  by_cases h : (x.2.2 : Int) = n <;> simp [h]
theorem ofN_len (n : Int) (l : List (Nat × Nat × Nat)) : (ofN n l).length ≤ l.length := List.length_filter_le _ _
theorem manyN_snoc (n : Int) (x : Nat × Nat × Nat) : ∀ (l : List (Nat × Nat × Nat)), manyN n (l ++ [x]) = manyN n l + (if (x.2.2 : Int) = n then x.2.1 - x.1 + 1 else 0)
  | [] => by simp [manyN]
  | y :: l => by simp only [List.cons_append, manyN, manyN_snoc n x l]; omega
theorem manyN_le (n : Int) {say : Nat → Nat} {hi : Nat} : ∀ {l : List (Nat × Nat × Nat)} {low : Nat}, Til say hi low l → low + manyN n l ≤ hi
  | [], low, h => Nat.le_of_eq h
  | x :: l, low, h => by
    have := manyN_le n h.2.2.2.2
    have h1 := h.1
    have h2 := h.2.1
    simp only [manyN]
    split <;> omega

theorem infoP : (Try.prog.info? 47).map (fun i => (i.zero, i.size, i.bytes)) = some (some (.agg #[(.int .i32 0), (.int .i32 0)]), 2, 8) := by kernel_rfl

def SetSt (w0 : World) (n : Int) (out : List (Nat × Nat × Nat)) (W : World) : Prop :=
  Below w0.heap.size w0 W ∧ Blk W w0.heap.size [.int .i64 n] 3 ∧ ∃ vS, Blk W (w0.heap.size + 1) [vS] 42 ∧ Kd.R k47 47 W w0.heap.size (fun _ => True) vS ((ofN n out).map toP)

set_option maxRecDepth 100000 in
set_option maxHeartbeats 1600000 in
theorem set_does (w0 : World) (v : Option Addr) (say : Nat → Nat) (hh : Han w0 v say) (n : Int) :
    Does say v (SetSt w0 n) 53 #[] #[.pointer (some ⟨w0.heap.size, 0, none⟩), .pointer (some ⟨w0.heap.size + 1, 0, none⟩)] where
  ent := call_enters Try.func53 (by kernel_rfl) (by kernel_rfl)
  han := fun out W h => hh.below h.1
  drew := fun out W n h => ⟨pw_below_drewN h.1 n, h.2.1, by
    obtain ⟨_, _, vS, h2, h3⟩ := h
    exact ⟨vS, h2, Kd.R_drewN h3 n⟩⟩
  alloc := fun out W o h => ⟨below_alloc h.1 o, h.2.1.alloc o, by
    obtain ⟨_, _, vS, h2, h3⟩ := h
    exact ⟨vS, h2.alloc o, Kd.R_alloc h3 o⟩⟩
  does := fun out W a b h hab hb ht => by
    obtain ⟨hB, h1, vS, h2, h3⟩ := h
    show Calls Try.prog _ #[.agg #[.int .i32 (a : Int), .int .i32 (b : Int), .int .i64 (say a : Nat)], .pointer (some ⟨w0.heap.size, 0, none⟩), .pointer (some ⟨w0.heap.size + 1, 0, none⟩)] W _
    have hlen : (ofN n out).length ≤ 1114112 := by have := ofN_len n out; have := ht.length; omega
    have infoP' := infoP
    have h1a := h1.alloc (.cells #[.int .i32 (a : Int), .int .i32 (b : Int), .int .i64 (say a : Nat)] 40)
    have hcn := h1a.cell 0
    by_cases hn : ((say a : Nat) : Int) = n
    · have e1 : (ofN n (out ++ [(a, b, say a)])).map toP = (ofN n out).map toP ++ [toP (a, b, say a)] := by rw [ofN_snoc, if_pos hn, List.map_append]; rfl
      have HE := Aside0.mk e1
      have h2a := h2.alloc (.cells #[.int .i32 (a : Int), .int .i32 (b : Int), .int .i64 (say a : Nat)] 40)
      have hcell := h2a.cell 0
      have HBk := Aside0.mk h2a
      have HBn := Aside0.mk h1a
      have HR := Aside0.mk (Kd.R_alloc h3 (.cells #[.int .i32 (a : Int), .int .i32 (b : Int), .int .i64 (say a : Nat)] 40))
      have HB := Aside0.mk (below_alloc hB (.cells #[.int .i32 (a : Int), .int .i32 (b : Int), .int .i64 (say a : Nat)] 40))
      have hxl : ((ofN n out).map toP).length ≤ 1114112 := by rw [List.length_map]; exact hlen
      generalize (ofN n out).map toP = xs at HE HR hxl
      clear e1 h1 h1a h2 h2a h3 hB hlen ht
      subst hn
      go_enter Try.func53, Try.ntmps53
      go_wp2_with (first | ((with_reducible refine gate_builtin (b := .append) (xs := #[.tmp 8, .tmp 14]) rfl ?_); at_builtin; refine Kd.R_append k47 (w0 := w0) w0.heap.size rfl (.tmp 8) (.tmp 14) 42 47 (.agg #[.int .i32 0, .int .i32 0]) 8 rfl Try.underlying42 infoP' rfl (by decide) (by omega) vS xs (toP (a, b, say a)) [.int .i32 (a : Int), .int .i32 (b : Int)] (fun _ => True) (fun _ => False) rfl (by first | (go_simp; done) | (go_simp; rfl)) (k47_mkM _ _ _ (toP (a, b, say a))) (fun _ hk => hk.elim) (fun _ _ => trivial) HR.out HB.out HB.out.size (by omega) ?_; intro v1 w1 ho1 hb1 hg1 hat1; obtain ⟨A1, c1, hvv⟩ := Kd.R_slice ho1; generalize (xs ++ [toP (a, b, say a)]).length = n1 at hvv; subst hvv; have HO1 := Aside0.mk ho1; have HB1 := Aside0.mk hb1; have HG1 := Aside0.mk hg1; have HBk1 := Aside0.mk (show Blk w1 (w0.heap.size + 1) [vS] 42 from blk_grown HBk.out hg1 (Kd.R_ne HR.out HBk.out (by decide))); have HBn1 := Aside0.mk (show Blk w1 w0.heap.size [.int .i64 (say a : Nat)] 3 from blk_grown HBn.out hg1 (Kd.R_ne HR.out HBn.out (by decide))); have hcell1 := HBk1.out.cell 0; have hfr1 := blk_frozen HBk1.out 0; clear ho1 hb1 hg1 hat1 hcell))
      have HF := Aside0.mk (show SetSt w0 ((say a : Nat) : Int) (out ++ [(a, b, say a)]) (w1.setCell ⟨w0.heap.size + 1, 0, none⟩ (.slice A1 n1 c1)) ∧ FuncKept W (w1.setCell ⟨w0.heap.size + 1, 0, none⟩ (.slice A1 n1 c1)) from
        ⟨⟨below_set HB1.out (by omega), HBn1.out.other (by simp) _, (.slice A1 n1 c1), HBk1.out.set 0 (.slice A1 n1 c1), by rw [HE.out]; exact Kd.R_set HO1.out HBk1.out (by decide) 0 (.slice A1 n1 c1)⟩, fun k cs hk => by
          have hk1 := hk.alloc (.cells #[.int .i32 (a : Int), .int .i32 (b : Int), .int .i64 (say a : Nat)] 40)
          have hk2 : Blk w1 k cs 98 := blk_grown hk1 HG1.out (Kd.R_ne HR.out hk1 (by decide))
          exact (Below.heap_setCell w1 _ (.slice A1 n1 c1) k (blk_types hk2 HBk1.out (by decide))).trans hk2⟩)
      go_wp2
      go_returns
      exact ⟨⟨_, rfl⟩, HF.out⟩
    · have hst : SetSt w0 n (out ++ [(a, b, say a)]) (W.alloc (.cells #[.int .i32 (a : Int), .int .i32 (b : Int), .int .i64 (say a : Nat)] 40)) :=
        ⟨below_alloc hB _, h1a, vS, h2.alloc _, by rw [ofN_snoc, if_neg hn, List.append_nil]; exact Kd.R_alloc h3 _⟩
      have HF := Aside0.mk (show SetSt w0 n (out ++ [(a, b, say a)]) (W.alloc (.cells #[.int .i32 (a : Int), .int .i32 (b : Int), .int .i64 (say a : Nat)] 40)) ∧ FuncKept W (W.alloc (.cells #[.int .i32 (a : Int), .int .i32 (b : Int), .int .i64 (say a : Nat)] 40)) from ⟨hst, fun k cs hk => hk.alloc _⟩)
      clear h1 h1a h2 h3 hB hst
      go_enter Try.func53, Try.ntmps53
      go_wp2
      go_returns
      exact ⟨⟨_, rfl⟩, HF.out⟩

def SetPost (w : World) (say : Nat → Nat) (n : Int) (e : Ending) (w' : World) : Prop :=
  Below w.heap.size w w' ∧ ∃ vS rs, e = .returned vS ∧ Til say 1114112 0 rs ∧ Kd.R k47 47 w' w.heap.size (fun _ => True) vS ((ofN n rs).map toP)

set_option maxRecDepth 100000 in
theorem set_calls (w : World) (v : Option Addr) (say : Nat → Nat) (hh : Han w v say) (n : Int) : Calls Try.prog 22 #[.pointer v, .int .i64 n] w (SetPost w say n) := by
  have HR := Aside0.mk (runs_calls (set_does w v say hh n) ((w.alloc (.cells #[.int .i64 n] 3)).alloc (.cells #[.slice none 0 0] 42)) ⟨below_alloc (below_alloc (Below.refl _ _) _) _, (blk_new w [.int .i64 n] 3).alloc _, _, by
    have := blk_new (w.alloc (.cells #[.int .i64 n] 3)) [.slice none 0 0] 42
    rw [alloc_size] at this
    exact this, Kd.R_nil _ _ _ _ _⟩)
  have hmf : ∀ (fn : Fn) (first cap : Array Value) (w : World), (Instr.makeFunc fn first cap).run Try.prog w = .ok (.func fn first cap) w := fun _ _ _ _ => rfl
  clear hh
  go_enter Try.func22, Try.ntmps22
  go_wp2_with fail
  refine HR.out.mono ?_
  rintro e w1 ⟨⟨x, rfl⟩, rs, ht, hb, h1, vS, h2, h3⟩
  have hcell := h2.cell 0
  have HF := Aside0.mk (show SetPost w say n (.returned vS) w1 from ⟨hb, vS, rs, rfl, ht, h3⟩)
  clear ht hb h1 h2 h3
  go_wp2
  go_returns
  exact HF.out

def CountSt (w0 : World) (n : Int) (out : List (Nat × Nat × Nat)) (W : World) : Prop :=
  Below w0.heap.size w0 W ∧ Blk W w0.heap.size [.int .i64 n] 3 ∧ Blk W (w0.heap.size + 1) [.int .i64 (manyN n out : Nat)] 3

set_option maxRecDepth 100000 in
set_option maxHeartbeats 1600000 in
theorem count_does (w0 : World) (v : Option Addr) (say : Nat → Nat) (hh : Han w0 v say) (n : Int) :
    Does say v (CountSt w0 n) 91 #[] #[.pointer (some ⟨w0.heap.size, 0, none⟩), .pointer (some ⟨w0.heap.size + 1, 0, none⟩)] where
  ent := call_enters Try.func91 (by kernel_rfl) (by kernel_rfl)
  han := fun out W h => hh.below h.1
  drew := fun out W n h => ⟨pw_below_drewN h.1 n, h.2.1, h.2.2⟩
  alloc := fun out W o h => ⟨below_alloc h.1 o, h.2.1.alloc o, h.2.2.alloc o⟩
  does := fun out W a b h hab hb ht => by
    obtain ⟨hB, h1, h2⟩ := h
    show Calls Try.prog _ #[.agg #[.int .i32 (a : Int), .int .i32 (b : Int), .int .i64 (say a : Nat)], .pointer (some ⟨w0.heap.size, 0, none⟩), .pointer (some ⟨w0.heap.size + 1, 0, none⟩)] W _
    have hm := manyN_le n ht
    have h1a := h1.alloc (.cells #[.int .i32 (a : Int), .int .i32 (b : Int), .int .i64 (say a : Nat)] 40)
    have h2a := h2.alloc (.cells #[.int .i32 (a : Int), .int .i32 (b : Int), .int .i64 (say a : Nat)] 40)
    have hcn := h1a.cell 0
    have hcm := h2a.cell 0
    have hfr := blk_frozen h2a 0
    have hB1 := below_alloc hB (.cells #[.int .i32 (a : Int), .int .i32 (b : Int), .int .i64 (say a : Nat)] 40)
    by_cases hn : ((say a : Nat) : Int) = n
    · have e1 : manyN n (out ++ [(a, b, say a)]) = manyN n out + (b - a + 1) := by rw [manyN_snoc, if_pos hn]
      have hw : IntKind.i32.wrap ((b : Int) - (a : Int)) = ((b - a : Nat) : Int) := by rw [IntWalk.i32_in _ (by omega)]; omega
      have hst : ∀ x : Int, x = ((manyN n out + (b - a + 1) : Nat) : Int) → CountSt w0 n (out ++ [(a, b, say a)]) ((W.alloc (.cells #[.int .i32 (a : Int), .int .i32 (b : Int), .int .i64 (say a : Nat)] 40)).setCell ⟨w0.heap.size + 1, 0, none⟩ (.int .i64 x)) ∧
          FuncKept W ((W.alloc (.cells #[.int .i32 (a : Int), .int .i32 (b : Int), .int .i64 (say a : Nat)] 40)).setCell ⟨w0.heap.size + 1, 0, none⟩ (.int .i64 x)) := fun x hx => by
        subst hx
        refine ⟨⟨below_set hB1 (by omega), h1a.other (by simp) _, by rw [e1]; exact h2a.set 0 _⟩, fun k cs hk => ?_⟩
        exact (Below.heap_setCell _ _ _ k (blk_types (hk.alloc _) h2a (by decide))).trans (hk.alloc _)
      have HF := Aside0.mk hst
      generalize manyN n out = m at hm hcm HF
      clear h1 h1a h2 h2a hB hB1 hst e1 ht
      subst hn
      go_enter Try.func91, Try.ntmps91
      go_wp2
      go_returns
      exact ⟨⟨_, rfl⟩, HF.out _ (by omega)⟩
    · have hst : CountSt w0 n (out ++ [(a, b, say a)]) (W.alloc (.cells #[.int .i32 (a : Int), .int .i32 (b : Int), .int .i64 (say a : Nat)] 40)) :=
        ⟨hB1, h1a, by rw [manyN_snoc, if_neg hn, Nat.add_zero]; exact h2a⟩
      have HF := Aside0.mk (show CountSt w0 n (out ++ [(a, b, say a)]) (W.alloc (.cells #[.int .i32 (a : Int), .int .i32 (b : Int), .int .i64 (say a : Nat)] 40)) ∧ FuncKept W (W.alloc (.cells #[.int .i32 (a : Int), .int .i32 (b : Int), .int .i64 (say a : Nat)] 40)) from ⟨hst, fun k cs hk => hk.alloc _⟩)
      clear h1 h1a h2 h2a hB hB1 hst
      go_enter Try.func91, Try.ntmps91
      go_wp2
      go_returns
      exact ⟨⟨_, rfl⟩, HF.out⟩

def CountPost (w : World) (say : Nat → Nat) (n : Int) (e : Ending) (w' : World) : Prop :=
  Below w.heap.size w w' ∧ ∃ rs, e = .returned (.int .i64 (manyN n rs : Nat)) ∧ Til say 1114112 0 rs

set_option maxRecDepth 100000 in
theorem count_calls (w : World) (v : Option Addr) (say : Nat → Nat) (hh : Han w v say) (n : Int) : Calls Try.prog 55 #[.pointer v, .int .i64 n] w (CountPost w say n) := by
  have HR := Aside0.mk (runs_calls (count_does w v say hh n) ((w.alloc (.cells #[.int .i64 n] 3)).alloc (.cells #[.int .i64 0] 3)) ⟨below_alloc (below_alloc (Below.refl _ _) _) _, (blk_new w [.int .i64 n] 3).alloc _, by
    have := blk_new (w.alloc (.cells #[.int .i64 n] 3)) [.int .i64 0] 3
    rw [alloc_size] at this
    exact this⟩)
  have hmf : ∀ (fn : Fn) (first cap : Array Value) (w : World), (Instr.makeFunc fn first cap).run Try.prog w = .ok (.func fn first cap) w := fun _ _ _ _ => rfl
  clear hh
  go_enter Try.func55, Try.ntmps55
  go_wp2_with fail
  refine HR.out.mono ?_
  rintro e w1 ⟨⟨x, rfl⟩, rs, ht, hb, h1, h2⟩
  have hcell := h2.cell 0
  have HF := Aside0.mk (show CountPost w say n (.returned (.int .i64 (manyN n rs : Nat))) w1 from ⟨hb, rs, rfl, ht⟩)
  clear ht hb h1 h2
  go_wp2
  go_returns
  exact HF.out

end Go.Proofs.Ytajmbafljncjcaa.PStageOver
