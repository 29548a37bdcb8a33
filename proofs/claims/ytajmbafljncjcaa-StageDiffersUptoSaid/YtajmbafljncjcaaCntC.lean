/- counts: of how many code points each thing is said. counts of pairs: the map that comes of it. -/
import Derived.Test.YtajmbafljncjcaaStrV
import Derived.Test.YtajmbafljncjcaaMpB
/-! ### Cnt: counts: of how many code points each thing is said. -/
namespace Go.Proofs.Ytajmbafljncjcaa.Stage
open Go.RowKit Go.Proofs.YtajmbafljncjcaaW.PrintWords Go.Proofs.YtajmbafljncjcaaW.PrintLast Go.Proofs.YtajmbafljncjcaaW.PrintMore Go.Proofs.Ytajmbafljncjcaa.Mp
set_option linter.unusedVariables false
set_option linter.unusedSimpArgs false

def prV (n : Nat) : Value := .agg #[.int .i64 (hiZ n), .int .i64 (loZ n)]
def evI (m : Nat) : Value := .int .i64 (m : Int)
theorem keyP : KeyOk Try.prog 126 prV (fun _ => True) := by
  have h := nats_ok (P := Try.prog) (t := 126) (e := 3) (n := 2) (k := .i64) Try.underlying126 Try.underlying3 (sizeOf_run size_int)
  exact ⟨fun w em a _ => h.chk w em (prL a) rfl, fun w a b _ _ => by
    have := h.eq w (prL a) (prL b) rfl rfl
    rw [prL_iff] at this
    exact this, fun a _ => h.same (prL a) rfl, by
    obtain ⟨d, hd, hs⟩ := h.und
    refine ⟨d, hd, fun a b _ _ => ?_⟩
    have := hs (prL a) (prL b) rfl rfl
    rw [prL_iff] at this
    exact this⟩
/-- An entry that is added to. -/
def addK (n m : Nat) (l : List (Nat × Nat)) : List (Nat × Nat) := put n ((at? n l).getD 0 + m) l
theorem place_put {a : Nat} {v : Nat} : ∀ (l : List (Nat × Nat)), at? a (put a v l) = some v := by
  intro l
  unfold put at?
  cases h : place a l with
  | some j =>
    obtain ⟨p, hj, hp⟩ := place_lt h
    have hjl : j < l.length := (List.getElem?_eq_some_iff.1 hj).1
    have : place a (l.set j (a, v)) = some j := by
      clear hj hp p
      induction l generalizing j with
      | nil => simp [place] at h
      | cons q l ih =>
        rw [place] at h
        split at h
        · rename_i he
          simp only [Option.some.injEq] at h
          subst h
          simp [place]
        · rename_i he
          cases hpl : place a l with
          | none => rw [hpl] at h; simp at h
          | some k =>
            rw [hpl] at h
            simp only [Option.map_some, Option.some.injEq] at h
            subst h
            rw [List.set_cons_succ, place, if_neg he, ih k hpl (by simpa using hjl)]
            rfl
    simp [this, hjl]
  | none =>
    have : place a (l ++ [(a, v)]) = some l.length := by
      induction l with
      | nil => simp [place]
      | cons q l ih =>
        rw [place] at h
        split at h
        · cases h
        · rename_i he
          have hpl : place a l = none := by
            cases hpl : place a l with
            | none => rfl
            | some k => rw [hpl] at h; simp at h
          rw [List.cons_append, place, if_neg he, ih hpl]
          rfl
    simp [this]
theorem at_put (a v : Nat) (l : List (Nat × Nat)) : at? a (put a v l) = some v := place_put l
theorem zero_int : ∀ w, (zeroValue 3).run Try.prog w = .ok (evI 0) w := fun w => zeroValue_run (by kernel_rfl) w

set_option maxRecDepth 100000 in
set_option maxHeartbeats 1600000 in
theorem cntP_calls (W : World) (Bm M : Nat) (l : List (Nat × Nat)) (a b n : Nat) (hab : a ≤ b) (hb : b ≤ 1114111) (hm : W.cell? ⟨Bm, 0, none⟩ = some (.map (some M))) (hM : MapB prV evI W M l) (hv : (at? n l).getD 0 ≤ 1114112) :
    Calls Try.prog 102 #[.int .i32 (a : Int), .int .i32 (b : Int), .agg #[.int .i64 (hiZ n), .int .i64 (loZ n)], .pointer (some ⟨Bm, 0, none⟩)] W fun e w' => (∃ v, e = .returned v) ∧ ∃ o, w' = setObjAt (W.alloc (.cells #[.int .i64 (hiZ n), .int .i64 (loZ n)] 126)).drew M o ∧ MapB prV evI w' M (addK n (b - a + 1) l) := by
  have hM1 : MapB prV evI (W.alloc (.cells #[.int .i64 (hiZ n), .int .i64 (loZ n)] 126)).drew M l := hM.block (Below.heap_alloc W _ M hM.lt)
  have hm1 : (W.alloc (.cells #[.int .i64 (hiZ n), .int .i64 (loZ n)] 126)).cell? ⟨Bm, 0, none⟩ = some (.map (some M)) := by
    rw [World.cell?_of_block (Below.heap_alloc W _ Bm (World.block_lt_of_cell? _ _ hm))]
    exact hm
  have hk0 : (W.alloc (.cells #[.int .i64 (hiZ n), .int .i64 (loZ n)] 126)).cell? ⟨W.heap.size, 0, none⟩ = some (.int .i64 (hiZ n)) := (blk_new W (prC n) 126).cell 0
  have hk1 : (W.alloc (.cells #[.int .i64 (hiZ n), .int .i64 (loZ n)] 126)).cell? ⟨W.heap.size, 1, none⟩ = some (.int .i64 (loZ n)) := (blk_new W (prC n) 126).cell 1
  obtain ⟨st, o, hE, hM2, hst⟩ := run_entry_add keyP (ev := evI) Try.underlying124 (z := 0) zero_int hM1 (fun _ _ => trivial) n trivial
  obtain ⟨o', hS, hM3⟩ := hst ((at? n l).getD 0 + (b - a + 1))
  have hL := run_lookup1 keyP (ev := evI) Try.underlying124 (z := 0) zero_int hM1.at (fun _ _ => trivial) n trivial
  have hL2 := run_lookup1 keyP (ev := evI) Try.underlying124 (z := 0) zero_int hM2.at (fun _ _ => trivial) n trivial
  rw [show (at? n (put n ((at? n l).getD 0) l)).getD 0 = (at? n l).getD 0 from by rw [at_put]; rfl] at hL2
  simp only [evI, prV] at hL hL2 hE hS
  have HF := Aside0.mk (show MapB prV evI (setObjAt (W.alloc (.cells #[.int .i64 (hiZ n), .int .i64 (loZ n)] 126)).drew M o') M (addK n (b - a + 1) l) from hM3)
  have e1 : IntKind.i32.wrap ((b : Int) - (a : Int)) = ((b - a : Nat) : Int) := by rw [IntWalk.i32_in _ (by omega)]; omega
  have e2 : IntKind.i64.wrap ((b - a : Nat) : Int) = ((b - a : Nat) : Int) := IntWalk.i64_in _ (by omega)
  have e3 : IntKind.i64.wrap (((b - a : Nat) : Int) + 1) = ((b - a + 1 : Nat) : Int) := by rw [IntWalk.i64_in _ (by omega)]; omega
  generalize hvv : (at? n l).getD 0 = v0 at *
  have e4 : IntKind.i64.wrap ((v0 : Int) + ((b - a + 1 : Nat) : Int)) = ((v0 + (b - a + 1) : Nat) : Int) := by rw [IntWalk.i64_in _ (by omega)]; omega
  rw [show ((v0 + (b - a + 1) : Nat) : Int) = (v0 : Int) + (((b - a : Nat) : Int) + 1) by omega] at hS
  clear hM hM1 hM2 hM3 hst hm hvv
  go_enter Try.func102, Try.ntmps102
  go_wp2
  generalize hW1 : W.alloc (.cells #[.int .i64 (hiZ n), .int .i64 (loZ n)] 126) = W1 at *
  go_region
  go_wp2
  go_returns
  exact ⟨⟨_, rfl⟩, o', by rw [hW1], HF.out⟩
end Go.Proofs.Ytajmbafljncjcaa.Stage

/-! ### CntC: counts of pairs: the map that comes of it. -/
namespace Go.Proofs.Ytajmbafljncjcaa.Stage
open Go.RowKit Go.Proofs.YtajmbafljncjcaaW.PrintWords Go.Proofs.YtajmbafljncjcaaW.PrintLast Go.Proofs.YtajmbafljncjcaaW.PrintMore Go.Proofs.Ytajmbafljncjcaa.Mp
set_option linter.unusedVariables false
set_option linter.unusedSimpArgs false

/-- The counts of stretches, in the order in which their things come first. -/
def cntL (out : List (Nat × Nat × Nat)) : List (Nat × Nat) := out.foldl (fun l x => addK x.2.2 (x.2.1 - x.1 + 1) l) []
theorem cntL_snoc (out : List (Nat × Nat × Nat)) (a b n : Nat) : cntL (out ++ [(a, b, n)]) = addK n (b - a + 1) (cntL out) := by unfold cntL; rw [List.foldl_append]; rfl
def manyK (n : Nat) : List (Nat × Nat × Nat) → Nat
  | [] => 0
  | x :: l => (if x.2.2 = n then x.2.1 - x.1 + 1 else 0) + manyK n l
theorem manyK_snoc (n : Nat) (x : Nat × Nat × Nat) : ∀ (l : List (Nat × Nat × Nat)), manyK n (l ++ [x]) = manyK n l + (if x.2.2 = n then x.2.1 - x.1 + 1 else 0)
  | [] => by simp [manyK]
  | y :: l => by simp only [List.cons_append, manyK, manyK_snoc n x l]; omega
theorem manyK_le (n : Nat) {say : Nat → Nat} {hi : Nat} : ∀ {l : List (Nat × Nat × Nat)} {low : Nat}, Til say hi low l → low + manyK n l ≤ hi
  | [], low, h => Nat.le_of_eq h
  | x :: l, low, h => by
    have := manyK_le n h.2.2.2.2
    have h1 := h.1
    have h2 := h.2.1
    simp only [manyK]
    split <;> omega
theorem place_set_ne {a b : Nat} (hne : a ≠ b) (v : Nat) : ∀ (l : List (Nat × Nat)) (j : Nat), place b l = some j → place a (l.set j (b, v)) = place a l
  | [], j, h => by simp [place] at h
  | q :: l, j, h => by
    rw [place] at h
    split at h
    · rename_i he
      simp only [Option.some.injEq] at h
      subst h
      rw [List.set_cons_zero, place, place, if_neg hne, if_neg (by rw [← he]; exact hne)]
    · rename_i he
      cases hpl : place b l with
      | none => rw [hpl] at h; simp at h
      | some k =>
        rw [hpl] at h
        simp only [Option.map_some, Option.some.injEq] at h
        subst h
        rw [List.set_cons_succ, place, place, place_set_ne hne v l k hpl]
theorem place_append_ne {a b : Nat} (hne : a ≠ b) (v : Nat) : ∀ (l : List (Nat × Nat)), place a (l ++ [(b, v)]) = place a l
  | [] => by simp [place, hne]
  | q :: l => by rw [List.cons_append, place, place, place_append_ne hne v l]
theorem at_put_ne {a b : Nat} (hne : a ≠ b) (v : Nat) (l : List (Nat × Nat)) : at? a (put b v l) = at? a l := by
  unfold put at?
  cases h : place b l with
  | some j =>
    simp only
    rw [place_set_ne hne v l j h]
    cases hp : place a l with
    | none => rfl
    | some i =>
      obtain ⟨p, hi, hpa⟩ := place_lt hp
      obtain ⟨q, hj, hqb⟩ := place_lt h
      have hij : j ≠ i := fun e => by
        subst e
        rw [hi] at hj
        cases hj
        exact hne (hpa.symm.trans hqb)
      simp [List.getElem?_set, hij]
  | none =>
    simp only
    rw [place_append_ne hne v l]
    cases hp : place a l with
    | none => rfl
    | some i =>
      obtain ⟨p, hi, hpa⟩ := place_lt hp
      have : i < l.length := (List.getElem?_eq_some_iff.1 hi).1
      simp [List.getElem?_append_left this]
theorem at_addK (a n m : Nat) (l : List (Nat × Nat)) : (at? a (addK n m l)).getD 0 = (at? a l).getD 0 + if n = a then m else 0 := by
  unfold addK
  by_cases h : n = a
  · subst h
    rw [at_put, if_pos rfl]
    rfl
  · rw [at_put_ne (fun e => h e.symm), if_neg h, Nat.add_zero]
theorem at_cnt (a : Nat) : ∀ (out : List (Nat × Nat × Nat)) (l : List (Nat × Nat)), (at? a (out.foldl (fun l x => addK x.2.2 (x.2.1 - x.1 + 1) l) l)).getD 0 = (at? a l).getD 0 + manyK a out
  | [], l => by simp [manyK]
  | x :: out, l => by
    rw [List.foldl_cons, at_cnt a out, at_addK]
    simp only [manyK]
    omega
theorem at_cntL (a : Nat) (out : List (Nat × Nat × Nat)) : (at? a (cntL out)).getD 0 = manyK a out := by
  have := at_cnt a out []
  unfold cntL
  rw [this]
  simp [at?, place]

/-- What counts of pairs is handed: what it says stands whatever is laid beside w0. -/
structure SaysP (w0 : World) (say : Nat → Nat) (ev : Nat → Bool) (Ns : FuncId) (fs cs : Array Value) (Ne : FuncId) (fe ce : Array Value) : Prop where
  entS : ∀ (args : Array Value) (W : World), (callFunc Ns args).run Try.prog W = .ok (.enter Ns args) W
  entE : ∀ (args : Array Value) (W : World), (callFunc Ne args).run Try.prog W = .ok (.enter Ne args) W
  even_ok : ∀ i, i < 8704 → ev i = true → ∀ j, j < 128 → say (128 * i + j) = say (128 * i)
  says : ∀ (W : World) (p : Nat), Below w0.heap.size w0 W → p < 1114112 → Calls Try.prog Ns (fs ++ #[.int .i32 (p : Int)] ++ cs) W fun e W' => e = .returned (.agg #[.int .i64 (hiZ (say p)), .int .i64 (loZ (say p))]) ∧ Below W.heap.size W W'
  evens : ∀ (W : World) (i : Nat), Below w0.heap.size w0 W → i < 8704 → Calls Try.prog Ne (fe ++ #[.int .i64 (i : Int)] ++ ce) W fun e W' => e = .returned (.bool (ev i)) ∧ Below W.heap.size W W'

structure CntSt (w0 : World) (M : Nat) (out : List (Nat × Nat × Nat)) (W : World) : Prop where
  bel : Below w0.heap.size w0 W
  le : w0.heap.size ≤ M
  cell : Blk W (M + 1) [.map (some M)] 124
  mp : MapB prV evI W M (cntL out)
theorem mapB_ne {w : World} {M k : Nat} {l : List (Nat × Nat)} {cs : List Value} {t : TypeId} (h : MapB prV evI w M l) (hk : Blk w k cs t) : M ≠ k := fun e => by
  subst e
  obtain ⟨es, clock, h1, _⟩ := h
  rw [show w.heap[M]? = _ from hk] at h1
  cases h1
theorem setObj_other (w : World) {b k : Nat} (h : b ≠ k) (o : Obj) : (setObjAt w k o).heap[b]? = w.heap[b]? := by
  simp [setObjAt, Array.getElem?_setIfInBounds, Ne.symm h]
theorem below_setObj {n : Nat} {w0 W : World} (h : Below n w0 W) {k : Nat} (hk : n ≤ k) (o : Obj) : Below n w0 (setObjAt W k o) :=
  ⟨h.1, h.2, h.3, by have := h.size; simpa [setObjAt] using this, fun b hb => by
    rw [setObj_other W (by omega) o]
    exact h.block b hb⟩
theorem CntSt.below {w0 : World} {M : Nat} {out : List (Nat × Nat × Nat)} {W W' : World} (h : CntSt w0 M out W) (hb : Below W.heap.size W W') : CntSt w0 M out W' :=
  ⟨h.bel.trans (hb.mono h.bel.size), h.le, (hb.block _ h.cell.lt).trans h.cell, h.mp.block (hb.block _ h.mp.lt)⟩
theorem pairKept_below {W W' : World} (hb : Below W.heap.size W W') : PairKept W W' := fun k cs h => (hb.block _ h.lt).trans h

set_option maxRecDepth 100000 in
theorem cnt_ways {w0 : World} {say : Nat → Nat} {ev : Nat → Bool} {Ns : FuncId} {fs cs : Array Value} {Ne : FuncId} {fe ce : Array Value} (Y : SaysP w0 say ev Ns fs cs Ne fe ce) (M : Nat) :
    WaysP w0.heap.size say ev (fun out W => CntSt w0 M out W) Ns fs cs Ne fe ce 102 #[] #[.pointer (some ⟨M + 1, 0, none⟩)] where
  entS := Y.entS
  entE := Y.entE
  entD := call_enters Try.func102 (by kernel_rfl) (by kernel_rfl)
  even_ok := Y.even_ok
  size := fun out W h => h.bel.size
  alloc := fun out W o h => h.below (below_alloc (Below.refl _ _) o)
  drew := fun out W h => h.below ⟨rfl, rfl, rfl, Nat.le_refl _, fun _ _ => rfl⟩
  setP := fun out W k cs i v h hk hB =>
    ⟨below_set h.bel hk, h.le, h.cell.other (blk_types h.cell hB (by decide)) _, h.mp.block (Below.heap_setCell W _ v M (mapB_ne h.mp hB))⟩
  says := fun out W p h hp => by
    refine (Y.says W p h.bel hp).mono ?_
    rintro e w' ⟨rfl, hb⟩
    exact ⟨rfl, h.below hb, pairKept_below hb⟩
  evens := fun out W i h hi => by
    refine (Y.evens W i h.bel hi).mono ?_
    rintro e w' ⟨rfl, hb⟩
    exact ⟨rfl, h.below hb, pairKept_below hb⟩
  does := fun out W a b h hab hb ht => by
    refine (cntP_calls W (M + 1) M (cntL out) a b (say a) hab hb (h.cell.cell 0) h.mp (by rw [at_cntL]; have := manyK_le (say a) ht; omega)).mono ?_
    rintro e w' ⟨he, o, rfl, hm⟩
    have h1 : Below W.heap.size W (W.alloc (.cells #[.int .i64 (hiZ (say a)), .int .i64 (loZ (say a))] 126)).drew := (below_alloc (Below.refl _ _) _).trans ⟨rfl, rfl, rfl, Nat.le_refl _, fun _ _ => rfl⟩
    have h2 := h.below h1
    refine ⟨he, ⟨below_setObj h2.bel h.le o, h.le, (setObj_other _ (fun e => mapB_ne h2.mp h2.cell e.symm) o).trans h2.cell, by rw [cntL_snoc]; exact hm⟩, fun k cs hk => ?_⟩
    have hk2 := pairKept_below h1 k cs hk
    exact (setObj_other _ (fun e => mapB_ne h2.mp hk2 e.symm) o).trans hk2

def CountsPost (w : World) (say : Nat → Nat) (e : Ending) (w' : World) : Prop :=
  Below w.heap.size w w' ∧ ∃ M rs, e = .returned (.map (some M)) ∧ w.heap.size ≤ M ∧ Til say 1114112 0 rs ∧ MapB prV evI w' M (cntL rs)
set_option maxRecDepth 100000 in
set_option maxHeartbeats 1600000 in
theorem counts_calls (w : World) {say : Nat → Nat} {ev : Nat → Bool} {Ns : FuncId} {fs cs : Array Value} {Ne : FuncId} {fe ce : Array Value} (Y : SaysP w say ev Ns fs cs Ne fe ce) :
    Calls Try.prog 78 #[.func (.func Ns) fs cs, .func (.func Ne) fe ce] w (CountsPost w say) := by
  have hmf : ∀ (fn : Fn) (first cap : Array Value) (w : World), (Instr.makeFunc fn first cap).run Try.prog w = .ok (.func fn first cap) w := fun _ _ _ _ => rfl
  have h0 : CntSt w w.heap.size [] ((w.alloc (.map #[] 0)).alloc (.cells #[.map (some w.heap.size)] 124)) := by
    have k1 := blk_new (w.alloc (.map #[] 0)) [.map (some w.heap.size)] 124
    rw [alloc_size] at k1
    exact ⟨below_alloc (below_alloc (Below.refl _ _) _) _, Nat.le_refl _, k1, (mapB_new w prV evI).block (Below.heap_alloc _ _ _ (by rw [alloc_size]; omega))⟩
  have HS := Aside0.mk (stretchesP_calls (cnt_ways Y w.heap.size) _ h0)
  have hmm : (Instr.makeMap 124 none).run Try.prog w = .ok (.map (some w.heap.size)) (w.alloc (.map #[] 0)) := run_makeMap _ _
  clear Y h0
  go_enter Try.func78, Try.ntmps78
  go_wp2_with fail
  refine HS.out.mono ?_
  rintro e w1 ⟨⟨x, rfl⟩, rs, ht, h⟩
  have hcell := h.cell.cell 0
  have HF := Aside0.mk (show CountsPost w say (.returned (.map (some w.heap.size))) w1 from ⟨h.bel, _, rs, rfl, h.le, ht, h.mp⟩)
  clear ht h
  go_wp2
  go_returns
  exact HF.out

end Go.Proofs.Ytajmbafljncjcaa.Stage
