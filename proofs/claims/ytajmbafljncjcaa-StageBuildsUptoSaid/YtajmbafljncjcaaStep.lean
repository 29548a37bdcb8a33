/- Steps over a whole array, over any program. -/
import Derived.Test.YtajmbafljncjcaaKeep
import Derived.Deep.AppendLies
import Derived.Deep.MidRow
import Derived.Deep.DrawnRows
import Derived.Deep.RegionLaw
namespace Go.Proofs.Ytajmbafljncjcaa.Mp
open Go.RowKit Go.Proofs.YtajmbafljncjcaaW.PrintWords
set_option linter.unusedVariables false
set_option linter.unusedSimpArgs false

variable {P : Program} {ops : Array Oper} {rest : List Oper} {o : Oper} {a : Act} {w : World} {Q : Exit → Act → World → Prop}

theorem sizeOf_run {e n : Nat} (h : (P.info? e).map (·.size) = some n) (w : World) : (sizeOf e).run P w = .ok n w := by
  obtain ⟨i, hi, hn⟩ := Option.map_eq_some_iff.1 h
  simp [sizeOf, typeInfo, hi, hn]
theorem zeroValue_run {e : Nat} {z : Value} (h : (P.info? e).map (·.zero) = some (some z)) (w : World) : (zeroValue e).run P w = .ok z w := by
  obtain ⟨i, hi, hn⟩ := Option.map_eq_some_iff.1 h
  simp [zeroValue, typeInfo, hi, hn]
/-- A whole block, read. -/
theorem wpList_load_blk (hgd : o.guard = none) (ty : TypeId) (x : Operand) (ho : o.op = .load ty x) (b : Nat) (hx : a.eval x = .pointer (some ⟨b, 0, none⟩)) (t : TypeId) (cs : List Value) (d : TypeDesc) (hb : Blk w b cs t)
    (hu : P.underlying ty = some d) (hd : (match d with | .struct _ | .array _ _ => true | _ => false) = true) (hi : (P.info? ty).map (·.size) = some cs.length)
    (h : wpList P ops Q rest (a.put o.dst (.agg cs.toArray)) w) : wpList P ops Q (o :: rest) a w :=
  wpList_load_row hgd ty x ho b hx t cs.toArray (0, 0) d hb hu hd (by simpa using hi) h

theorem run_storeVar_blk (ty : TypeId) (b : Nat) (t : TypeId) (cs cs' : List Value) (hb : Blk w b cs t) (hl : cs'.length = cs.length) (hi : (P.info? ty).map (·.size) = some cs.length) (h1 : ∀ v ∈ cs', v.oneCell' = true) :
    (storeVar ty ⟨b, 0, none⟩ (.agg cs'.toArray)).run P w = .ok () (w.setRow b cs'.toArray) := by
  have hs := run_storeCells_at (P := P) b 0 t cs' 0 cs.toArray w hb (by simp; omega) h1
  have e : (cs.toArray.toList.take (0 + 0) ++ cs' ++ cs.toArray.toList.drop (0 + 0 + cs'.length)).toArray = cs'.toArray := by
    simp [List.drop_of_length_le (show cs.length ≤ cs'.length by omega)]
  rw [e] at hs
  cases hq : P.info? ty with
  | none => simp [hq] at hi
  | some i =>
    have hz : i.size = cs.length := by simpa [hq] using hi
    simp [storeVar, sizeOf, typeInfo, hq, Value.cells, hz, hl, hs]

/-- A whole block, written. -/
theorem wpList_store_blk (hgd : o.guard = none) (ty : TypeId) (x y : Operand) (ho : o.op = .store ty x y) (b : Nat) (hx : a.eval x = .pointer (some ⟨b, 0, none⟩)) (t : TypeId) (cs cs' : List Value) (hy : a.eval y = .agg cs'.toArray) (hb : Blk w b cs t)
    (hl : cs'.length = cs.length) (hi : (P.info? ty).map (·.size) = some cs.length) (h1 : ∀ v ∈ cs', v.oneCell' = true)
    (h : wpList P ops Q rest (a.put o.dst undef) (w.setRow b cs'.toArray)) : wpList P ops Q (o :: rest) a w :=
  wpList_plain hgd fun K hK => by
    unfold Oper.wp execOp
    simp only [ho, hx, hy, Instr.storeAt, Instr.sureAddr, Sem.run_bind, Sem.run_pure, Result.andThen_ok, run_storeVar_blk ty b t cs cs' hb hl hi h1]
    exact hK _ _ h

theorem wpList_store_blk' (hgd : o.guard = none) (hdst : o.dst = none) (ty : TypeId) (x y : Operand) (ho : o.op = .store ty x y) (b : Nat) (hx : a.eval x = .pointer (some ⟨b, 0, none⟩)) (t : TypeId) (cs cs' : List Value) (Z : Array Value) (hy : a.eval y = .agg Z) (hz : Z = cs'.toArray) (hb : Blk w b cs t)
    (hl : cs'.length = cs.length) (hi : (P.info? ty).map (·.size) = some cs.length) (h1 : ∀ v ∈ cs', v.oneCell' = true)
    (h : wpList P ops Q rest a (w.setRow b cs'.toArray)) : wpList P ops Q (o :: rest) a w :=
  wpList_store_blk hgd ty x y ho b hx t cs cs' (by rw [hy, hz]) hb hl hi h1 (by rw [hdst]; exact h)
theorem natCells_one (k : IntKind) (xs : List Nat) : ∀ v ∈ natCells k xs, v.oneCell' = true := by
  intro v hv
  simp only [natCells, List.mem_map] at hv
  obtain ⟨x, _, rfl⟩ := hv
  rfl

theorem Blk.setRow {b : Nat} {cs : List Value} {t : TypeId} (h : Blk w b cs t) (cs' : List Value) : Blk (w.setRow b cs'.toArray) b cs' t := setRow_heap w b _ _ t _ h
theorem Blk.setRow_other {b k : Nat} {cs : List Value} {t : TypeId} (h : Blk w b cs t) (hn : b ≠ k) (cs' : Array Value) : Blk (w.setRow k cs') b cs t := (Go.setRow_other w k b cs' hn).trans h
theorem Keeps.setRow {Pr : Nat → Prop} {w0 : World} (h : Keeps Pr w0 w) (k : Nat) (cs : Array Value) (hp : k < w0.heap.size → Pr k) : Keeps Pr w0 (w.setRow k cs) :=
  ⟨h.os, h.tape, h.output, by rw [size_setRow]; exact h.size, fun i hi hn => (Go.setRow_other w k i cs (fun e => hn (by subst e; exact hp hi))).trans (h.block i hi hn)⟩

/-- A new block of a known content. -/
theorem wpList_box (hgd : o.guard = none) (ty : TypeId) (x : Operand) (ho : o.op = .box ty x) (cs : Array Value) (hx : a.eval x = .agg cs)
    (h : wpList P ops Q rest (a.put o.dst (.pointer (some ⟨w.heap.size, 0, none⟩))) (w.alloc (.cells cs ty))) : wpList P ops Q (o :: rest) a w :=
  wpList_plain hgd fun K hK => by
    unfold Oper.wp execOp
    simp only [ho, hx, Instr.box, newVar, newRow, newObj, Value.cells, Sem.run_bind, Sem.run_pure, Result.andThen_ok, Sem.run]
    exact hK _ _ h

theorem wpList_alloc (hgd : o.guard = none) (ty : TypeId) (ho : o.op = .alloc ty) (cs : Array Value) (hz : (P.info? ty).map (·.zero) = some (some (.agg cs)))
    (h : wpList P ops Q rest (a.put o.dst (.pointer (some ⟨w.heap.size, 0, none⟩))) (w.alloc (.cells cs ty))) : wpList P ops Q (o :: rest) a w :=
  wpList_plain hgd fun K hK => by
    obtain ⟨i, hi, hzz⟩ := Option.map_eq_some_iff.1 hz
    unfold Oper.wp execOp
    simp only [ho, Instr.alloc, zeroValue, typeInfo, Go.program, Sem.run_bind, Sem.run_pure, Result.andThen_ok, Sem.run, hi, hzz, newVar, newRow, newObj, Value.cells]
    exact hK _ _ h

/-- A zero value of a struct or an array. -/
theorem wpList_build0 (hgd : o.guard = none) (ty : TypeId) (ho : o.op = .build ty #[]) (cs : Array Value) (hz : (P.info? ty).map (·.zero) = some (some (.agg cs))) {d : TypeDesc} (hu : P.underlying ty = some d)
    (hd : (∃ n e i, d = .array n e ∧ P.info? e = some i) ∨ ∃ fs, d = .struct fs ∧ ∀ f ∈ fs.toList, (P.info? f.type).isSome = true)
    (h : wpList P ops Q rest (a.put o.dst (.agg cs)) w) : wpList P ops Q (o :: rest) a w :=
  wpList_plain hgd fun K hK => by
    obtain ⟨i, hi, hzz⟩ := Option.map_eq_some_iff.1 hz
    unfold Oper.wp execOp
    rcases hd with ⟨n, e, j, rfl, hj⟩ | ⟨fs, rfl, hfs⟩
    · simp only [ho, Instr.build, zeroValue, typeInfo, Go.program, sizeOf, Sem.run_bind, Sem.run_pure, Result.andThen_ok, Sem.run, hi, hzz, Value.cells, run_underlying hu, hj, Instr.fill, Array.map_empty]
      exact hK _ _ h
    · have hm : ∃ ps, (fs.mapM fun f => do pure (f.offset, ← sizeOf f.type) : Sem (Array (Nat × Nat))).run P w = .ok ps w := by
        have key : ∀ (l : List Field) (acc : Array (Nat × Nat)), (∀ f ∈ l, (P.info? f.type).isSome = true) → ∃ ps, (l.foldlM (fun bs f => do let p ← (do pure (f.offset, ← sizeOf f.type) : Sem (Nat × Nat)); pure (bs.push p)) acc : Sem (Array (Nat × Nat))).run P w = .ok ps w := by
          intro l
          induction l with
          | nil => intro acc _; exact ⟨acc, by simp⟩
          | cons f l ih =>
            intro acc hf
            obtain ⟨j, hj⟩ := Option.isSome_iff_exists.1 (hf f List.mem_cons_self)
            obtain ⟨ps, hps⟩ := ih (acc.push (f.offset, j.size)) (fun g hg => hf g (List.mem_cons_of_mem _ hg))
            refine ⟨ps, ?_⟩
            simp only [List.foldlM_cons, Sem.run_bind, sizeOf, typeInfo, Go.program, Sem.run, hj, Sem.run_pure, Result.andThen_ok]
            exact hps
        obtain ⟨ps, hps⟩ := key fs.toList #[] hfs
        refine ⟨ps, ?_⟩
        rw [Array.mapM_eq_foldlM, ← Array.foldlM_toList]
        exact hps
      obtain ⟨ps, hps⟩ := hm
      simp only [ho, Instr.build, zeroValue, typeInfo, Go.program, Sem.run_bind, Sem.run_pure, Result.andThen_ok, Sem.run, hi, hzz, Value.cells, run_underlying hu, hps, Instr.fill, Array.map_empty]
      exact hK _ _ h

theorem wpList_lookup (hgd : o.guard = none) (m x : Operand) (t : TypeId) (c : Bool) (ho : o.op = .lookup t m x c) (vm vx v : Value) (hm : a.eval m = vm) (hx : a.eval x = vx) (hrun : (Instr.lookup t vm vx c).run P w = .ok v w)
    (h : wpList P ops Q rest (a.put o.dst v) w) : wpList P ops Q (o :: rest) a w :=
  wpList_plain hgd fun K hK => by
    unfold Oper.wp execOp
    simp only [ho, hm, hx, Sem.run_bind, hrun, Result.andThen_ok, Sem.run_pure]
    exact hK _ _ h

theorem wpList_update (hgd : o.guard = none) (hdst : o.dst = none) (m x v : Operand) (t : TypeId) (ho : o.op = .mapUpdate t m x v) (vm vx vv : Value) (hm : a.eval m = vm) (hx : a.eval x = vx) (hv : a.eval v = vv) (w1 : World) (hrun : (Instr.mapUpdate t vm vx vv).run P w = .ok () w1)
    (h : wpList P ops Q rest a w1) : wpList P ops Q (o :: rest) a w :=
  wpList_plain hgd fun K hK => by
    unfold Oper.wp execOp
    simp only [ho, hm, hx, hv, Sem.run_bind, hrun, Result.andThen_ok, Sem.run_pure]
    rw [Oper.upon_skip, hdst]
    exact hK _ _ h

/-- Cells in a row, as a region that draws its order reads them. -/
def rangeOk (w : World) (v : Value) (n : Nat) : Bool :=
  match v with
  | .pointer (some ⟨b, o, none⟩) => (List.range n).all fun j => (w.cell? ⟨b, o + j, none⟩).isSome
  | _ => false
def rangeOf (w : World) (v : Value) (n : Nat) : Array Value :=
  match v with
  | .pointer (some ⟨b, o, none⟩) => ((List.range n).map fun j => (w.cell? ⟨b, o + j, none⟩).getD undef).toArray
  | _ => #[]
theorem range_blk {b : Nat} {cs : List Value} {t : TypeId} (h : Blk w b cs t) : rangeOk w (.pointer (some ⟨b, 0, none⟩)) cs.length = true ∧ rangeOf w (.pointer (some ⟨b, 0, none⟩)) cs.length = cs.toArray := by
  constructor
  · simp only [rangeOk, List.all_eq_true, List.mem_range, Nat.zero_add]
    intro j hj
    rw [h.cell j, List.getElem?_eq_getElem hj]; rfl
  · simp only [rangeOf, Nat.zero_add]
    congr 1
    apply List.ext_getElem (by simp)
    intro i h1 h2
    simp [h.cell i, h2]
theorem range_cells {b o : Nat} {cs : List Value} (h : ∀ j, j < cs.length → w.cell? ⟨b, o + j, none⟩ = cs[j]?) : rangeOk w (.pointer (some ⟨b, o, none⟩)) cs.length = true ∧ rangeOf w (.pointer (some ⟨b, o, none⟩)) cs.length = cs.toArray := by
  constructor
  · simp only [rangeOk, List.all_eq_true, List.mem_range]
    intro j hj
    rw [h j hj, List.getElem?_eq_getElem hj]; rfl
  · simp only [rangeOf]
    congr 1
    apply List.ext_getElem (by simp)
    intro i h1 h2
    simp [h i h2, h2]
theorem run_load_range {ty n : Nat} {d : TypeDesc} (hu : P.underlying ty = some d) (hd : d.isRow = true) (hi : (P.info? ty).map (·.size) = some n)
    (ρ : Operand → Value) (dst : Option Tmp) (x : Operand) (t' : TypeId) (pos : String) (af : Array Edge) (g : Option (Nat × Bool)) (W : World) (h : rangeOk W (ρ x) n = true) :
    Sem.run P (execOp ρ { dst := dst, op := .load ty x, type := t', pos := pos, after := af, guard := g }) W = .ok (.value (.agg (rangeOf W (ρ x) n))) W := by
  have key : ∀ v, rangeOk W v n = true → (Instr.loadAt ty v).run P W = .ok (.agg (rangeOf W v n)) W := by
    intro v h
    unfold rangeOk at h
    split at h
    · rename_i b o
      simp only [List.all_eq_true, List.mem_range] at h
      have hr : W.rangeAt b o ((List.range n).map fun j => (W.cell? ⟨b, o + j, none⟩).getD undef) := by
        intro j u hu
        have hj : j < n := by
          have := (List.getElem?_eq_some_iff.1 hu).1
          simpa using this
        obtain ⟨c, hc⟩ := Option.isSome_iff_exists.1 (h j hj)
        simp [hj, hc] at hu
        rw [hc, hu]
      have := run_loadVar_mid (P := P) W b o ty _ d hr hu hd (by simpa using hi)
      simp only [Instr.loadAt, Instr.sureAddr, Sem.run_bind, Sem.run_pure, Result.andThen_ok, this, rangeOf]
    · cases h
  simp only [execOp, Sem.run_bind, key _ h, Result.andThen_ok, Sem.run_pure]
/-- A row of one element, laid. -/
theorem fold_set : ∀ (l : List Value) (k : Nat) (c : Array Value) (j : Nat), ((l.zipIdx k).foldl (fun cs (x : Value × Nat) => cs.setIfInBounds x.2 x.1) c)[j]? = if k ≤ j ∧ j < k + l.length ∧ j < c.size then l[j - k]? else c[j]?
  | [], k, c, j => by simp; intros; omega
  | x :: l, k, c, j => by
    rw [List.zipIdx_cons, List.foldl_cons, fold_set l (k + 1)]
    simp only [Array.size_setIfInBounds, List.length_cons, Array.getElem?_setIfInBounds]
    by_cases h1 : k + 1 ≤ j ∧ j < k + 1 + l.length ∧ j < c.size
    · rw [if_pos h1, if_pos (by omega), show j - k = (j - (k + 1)) + 1 from by omega, List.getElem?_cons_succ]
    · rw [if_neg h1]
      by_cases h2 : k = j
      · subst h2
        rw [if_pos rfl]
        by_cases h3 : k < c.size
        · rw [if_pos h3, if_pos (by omega)]; simp
        · rw [if_neg h3, if_neg (by omega)]; simp; omega
      · rw [if_neg h2, if_neg (by omega)]
theorem fill_one (sz : Nat) (cs : List Value) (zero : Array Value) (hz : zero.size = sz) (hl : cs.length = sz) : Instr.fill (fun i => some (i * sz, sz)) zero [(0, .agg cs.toArray)] = some cs.toArray := by
  have hf : ((cs.zipIdx 0).foldl (fun c (x : Value × Nat) => c.setIfInBounds x.2 x.1) zero) = cs.toArray := by
    apply Array.ext_getElem?
    intro j
    rw [fold_set]
    by_cases h : j < sz
    · rw [if_pos (by omega)]; simp
    · rw [if_neg (by omega)]
      simp [show zero.size ≤ j by omega, show cs.length ≤ j by omega]
  unfold Instr.fill
  simp only [Nat.zero_mul, Value.cells, List.size_toArray, hl, ne_eq, not_true_eq_false, Nat.zero_add, hz, gt_iff_lt, Nat.lt_irrefl, or_self, if_false, Instr.fill]
  simpa using hf

theorem run_buildSlice_one {t e : TypeId} {sz : Nat} (ht : P.underlying t = some (.slice e)) (hi : (P.info? e).map (fun i => (i.size, i.zero.map (·.cells.size))) = some (sz, some sz)) (h0 : 0 < sz) (h24 : sz ≤ 16777216) (w : World) (cs : List Value) (hl : cs.length = sz) :
    (Instr.buildSlice t 1 #[(0, .agg cs.toArray)]).run P w = .ok (.slice (some ⟨w.heap.size, 0, none⟩) 1 1) (w.alloc (.cells cs.toArray e)) := by
  obtain ⟨i, hi, hzz⟩ := Option.map_eq_some_iff.1 hi
  simp only [Prod.mk.injEq] at hzz
  obtain ⟨h1, h2⟩ := hzz
  obtain ⟨z, hz, hzs⟩ := Option.map_eq_some_iff.1 h2
  have hfill := fun zero hz => fill_one sz cs zero hz hl
  simp only [Instr.buildSlice, Sem.run_bind, run_underlying ht, Result.andThen_ok, sizeOf, typeInfo, Go.program, Sem.run, hi, Sem.run_pure, h1, Nat.one_mul, if_neg (show ¬ sz > 2 ^ 24 by omega), if_neg (show ¬ sz = 0 by omega), zeroValue, hz,
    hfill ((Array.range sz).map (z.cells[· % z.cells.size]!)) (by simp), newRow, newObj]
  rfl

theorem Blk.setCells {b : Nat} {t : TypeId} : ∀ (vs : List Value) (o : Nat) {w : World} {cs : List Value}, Blk w b cs t → o + vs.length ≤ cs.length → Blk (w.setCells b o vs) b (cs.take o ++ vs ++ cs.drop (o + vs.length)) t
  | [], o, w, cs, h, _ => by simpa [World.setCells] using h
  | v :: r, o, w, cs, h, hl => by
    simp only [List.length_cons] at hl
    have := Blk.setCells r (o + 1) (h.set o v) (by simp; omega)
    rw [World.setCells]
    have e : (cs.set o v).take (o + 1) ++ r ++ (cs.set o v).drop (o + 1 + r.length) = cs.take o ++ (v :: r) ++ cs.drop (o + (v :: r).length) := by
      rw [List.take_succ_eq_append_getElem (by simp; omega), List.take_set_of_le (by omega), List.drop_set_of_lt (by omega)]
      simp [Nat.add_assoc, Nat.add_comm 1]
    rwa [e] at this
theorem Blk.setCells_all {b : Nat} {t : TypeId} {cs vs : List Value} (h : Blk w b cs t) (hl : vs.length = cs.length) : Blk (w.setCells b 0 vs) b vs t := by
  have := Blk.setCells vs 0 h (by omega)
  simpa [List.drop_of_length_le (show cs.length ≤ vs.length by omega)] using this
theorem setCells_old (b : Nat) : ∀ (vs : List Value) (o : Nat) (w : World) (k : Nat), k ≠ b → (w.setCells b o vs).heap[k]? = w.heap[k]?
  | [], _, _, _, _ => rfl
  | v :: r, o, w, k, h => (setCells_old b r (o + 1) _ k h).trans (Below.heap_setCell _ _ _ _ h)
theorem setCells_size (b : Nat) : ∀ (vs : List Value) (o : Nat) (w : World), (w.setCells b o vs).heap.size = w.heap.size
  | [], _, _ => rfl
  | v :: r, o, w => (setCells_size b r (o + 1) _).trans (size_setCell _ _ _)
theorem setCells_rest (b : Nat) : ∀ (vs : List Value) (o : Nat) (w : World), (w.setCells b o vs).os = w.os ∧ (w.setCells b o vs).tape = w.tape ∧ (w.setCells b o vs).output = w.output
  | [], _, _ => ⟨rfl, rfl, rfl⟩
  | v :: r, o, w => setCells_rest b r (o + 1) _
theorem Keeps.setCells {Pr : Nat → Prop} {w0 : World} (h : Keeps Pr w0 w) (b o : Nat) (vs : List Value) (hp : b < w0.heap.size → Pr b) : Keeps Pr w0 (w.setCells b o vs) :=
  ⟨(setCells_rest b vs o w).1.trans h.os, (setCells_rest b vs o w).2.1.trans h.tape, (setCells_rest b vs o w).2.2.trans h.output, by rw [setCells_size]; exact h.size, fun i hi hn => (setCells_old b vs o w i (fun e => hn (by subst e; exact hp hi))).trans (h.block i hi hn)⟩
theorem Blk.setCells_other {b k : Nat} {cs : List Value} {t : TypeId} (h : Blk w b cs t) (hn : b ≠ k) (o : Nat) (vs : List Value) : Blk (w.setCells k o vs) b cs t := (setCells_old k vs o w b hn).trans h
theorem op_buildSlice_one {t e : TypeId} {sz : Nat} (ht : P.underlying t = some (.slice e)) (hi : (P.info? e).map (fun i => (i.size, i.zero.map (·.cells.size))) = some (sz, some sz)) (h0 : 0 < sz) (h24 : sz ≤ 16777216)
    (ρ : Operand → Value) (dst : Option Tmp) (x : Operand) (t' : TypeId) (pos : String) (af : Array Edge) (g : Option (Nat × Bool)) (W : World) (cs : Array Value) (h : ρ x = .agg cs) (hl : cs.size = sz) :
    Sem.run P (execOp ρ { dst := dst, op := .buildSlice t 1 #[(0, x)], type := t', pos := pos, after := af, guard := g }) W = .ok (.value (.slice (some ⟨W.heap.size, 0, none⟩) 1 1)) (W.alloc (.cells cs e)) := by
  have hr := run_buildSlice_one (P := P) ht hi h0 h24 W cs.toList (by simpa using hl)
  simp only [Array.toArray_toList] at hr
  simp only [execOp, List.map_toArray, List.map_cons, List.map_nil, h, Sem.run_bind, hr, Result.andThen_ok, Sem.run_pure]
/-- The same, the cells read off the frame. -/
theorem op_buildSlice_row {t e : TypeId} {sz : Nat} (ht : P.underlying t = some (.slice e)) (hi : (P.info? e).map (fun i => (i.size, i.zero.map (·.cells.size))) = some (sz, some sz)) (h0 : 0 < sz) (h24 : sz ≤ 16777216)
    (ρ : Operand → Value) (dst : Option Tmp) (x : Operand) (t' : TypeId) (pos : String) (af : Array Edge) (g : Option (Nat × Bool)) (W : World) (h : (match ρ x with | .agg cs => decide (cs.size = sz) | _ => false) = true) :
    Sem.run P (execOp ρ { dst := dst, op := .buildSlice t 1 #[(0, x)], type := t', pos := pos, after := af, guard := g }) W = .ok (.value (.slice (some ⟨W.heap.size, 0, none⟩) 1 1)) (W.alloc (.cells (ρ x).cells e)) := by
  split at h
  · rename_i cs e
    rw [op_buildSlice_one ht hi h0 h24 ρ dst x t' pos af g W cs e (by simpa using h), e]
    rfl
  · cases h

end Go.Proofs.Ytajmbafljncjcaa.Mp
