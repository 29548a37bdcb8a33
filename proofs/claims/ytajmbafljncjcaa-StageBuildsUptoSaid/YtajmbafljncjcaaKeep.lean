/- What a call leaves as it was: all blocks but some. Words on blocks of one's own. Over any program. -/
import Derived.Test.YtajmbafljncjcaaMap
namespace Go.Proofs.Ytajmbafljncjcaa.Mp
open Go.RowKit Go.Proofs.YtajmbafljncjcaaW.PrintWords
set_option linter.unusedVariables false
set_option linter.unusedSimpArgs false

/-- Of the blocks of w all but those of Pr are in w' as they were. -/
structure Keeps (Pr : Nat → Prop) (w w' : World) : Prop where
  os : w'.os = w.os
  tape : w'.tape = w.tape
  output : w'.output = w.output
  size : w.heap.size ≤ w'.heap.size
  block : ∀ k, k < w.heap.size → ¬ Pr k → w'.heap[k]? = w.heap[k]?

theorem alloc_size (w : World) (o : Obj) : (w.alloc o).heap.size = w.heap.size + 1 := by simp
theorem Keeps.refl (Pr : Nat → Prop) (w : World) : Keeps Pr w w := ⟨rfl, rfl, rfl, Nat.le_refl _, fun _ _ _ => rfl⟩
theorem Keeps.trans {Pr : Nat → Prop} {a b c : World} (h : Keeps Pr a b) (k : Keeps Pr b c) : Keeps Pr a c :=
  ⟨k.os.trans h.os, k.tape.trans h.tape, k.output.trans h.output, Nat.le_trans h.size k.size, fun i hi hp => (k.block i (Nat.lt_of_lt_of_le hi h.size) hp).trans (h.block i hi hp)⟩
theorem Keeps.mono {Pr Pr' : Nat → Prop} {a b : World} (h : Keeps Pr a b) (hp : ∀ k, k < a.heap.size → Pr k → Pr' k) : Keeps Pr' a b :=
  ⟨h.os, h.tape, h.output, h.size, fun i hi hn => h.block i hi (fun q => hn (hp i hi q))⟩
/-- The new ones of the first step may be written in the second. -/
theorem Keeps.then {Pr Pr' : Nat → Prop} {a b c : World} (h : Keeps Pr a b) (k : Keeps Pr' b c) (hp : ∀ i, i < a.heap.size → Pr' i → Pr i) : Keeps Pr a c :=
  ⟨k.os.trans h.os, k.tape.trans h.tape, k.output.trans h.output, Nat.le_trans h.size k.size, fun i hi hn => (k.block i (Nat.lt_of_lt_of_le hi h.size) (fun q => hn (hp i hi q))).trans (h.block i hi hn)⟩
theorem Keeps.of_below {Pr : Nat → Prop} {a b : World} (h : Below a.heap.size a b) : Keeps Pr a b := ⟨h.os, h.tape, h.output, h.size, fun i hi _ => h.block i hi⟩
theorem Keeps.below {a b : World} (h : Keeps (fun _ => False) a b) : Below a.heap.size a b := ⟨h.os, h.tape, h.output, h.size, fun i hi => h.block i hi (fun q => q)⟩
theorem Keeps.to_below {Pr : Nat → Prop} {a b : World} (h : Keeps Pr a b) (hp : ∀ k, k < a.heap.size → ¬ Pr k) : Below a.heap.size a b := ⟨h.os, h.tape, h.output, h.size, fun i hi => h.block i hi (hp i hi)⟩
theorem Keeps.alloc {Pr : Nat → Prop} {a b : World} (h : Keeps Pr a b) (o : Obj) : Keeps Pr a (b.alloc o) :=
  h.trans (Keeps.of_below ((Below.refl _ _).alloc (Nat.le_refl _) o))
theorem Keeps.drew {Pr : Nat → Prop} {a b : World} (h : Keeps Pr a b) : Keeps Pr a b.drew := ⟨h.os, h.tape, h.output, h.size, h.block⟩
theorem Keeps.drewN {Pr : Nat → Prop} {a b : World} (h : Keeps Pr a b) (n : Nat) : Keeps Pr a (b.drewN n) := ⟨h.os, h.tape, h.output, h.size, h.block⟩
theorem size_setCell (w : World) (p : Addr) (u : Value) : (w.setCell p u).heap.size = w.heap.size := by simp [World.setCell]
theorem Keeps.setCell {Pr : Nat → Prop} {a b : World} (h : Keeps Pr a b) (p : Addr) (u : Value) (hp : p.block < a.heap.size → Pr p.block) : Keeps Pr a (b.setCell p u) :=
  ⟨h.os, h.tape, h.output, by rw [size_setCell]; exact h.size, fun i hi hn => (Below.heap_setCell b p u i (fun e => hn (by subst e; exact hp hi))).trans (h.block i hi hn)⟩
theorem Keeps.setObj {Pr : Nat → Prop} {a b : World} (h : Keeps Pr a b) (k : Nat) (o : Obj) (hp : k < a.heap.size → Pr k) : Keeps Pr a (setObjAt b k o) :=
  ⟨h.os, h.tape, h.output, by simp [setObjAt]; exact h.size, fun i hi hn => by
    have hne : ¬ k = i := fun e => hn (by subst e; exact hp hi)
    rw [← h.block i hi hn]
    simp [setObjAt, Array.getElem?_setIfInBounds, hne]⟩
theorem Keeps.grown {Pr : Nat → Prop} {a b c : World} {row : Option Nat} (h : Keeps Pr a b) (hg : b.grownBy c row) (hr : ∀ k, row = some k → k < a.heap.size → Pr k) : Keeps Pr a c :=
  ⟨hg.os.trans h.os, hg.tape.trans h.tape, hg.output.trans h.output, Nat.le_trans h.size hg.size, fun i hi hn => (hg.block i (Nat.lt_of_lt_of_le hi h.size) (fun e => hn (hr i e.symm hi))).trans (h.block i hi hn)⟩
theorem Keeps.cell {Pr : Nat → Prop} {a b : World} (h : Keeps Pr a b) {p : Addr} {v : Value} (hn : ¬ Pr p.block) (hc : a.cell? p = some v) : b.cell? p = some v :=
  (World.cell?_of_block (h.block p.block (World.block_lt_of_cell? a p hc) hn)).trans hc

/-- A block of whole numbers that is one's own. -/
def Blk (w : World) (b : Nat) (cs : List Value) (t : TypeId) : Prop := w.heap[b]? = some (.cells cs.toArray t (0, 0))

theorem Blk.lt {w : World} {b : Nat} {cs : List Value} {t : TypeId} (h : Blk w b cs t) : b < w.heap.size := (Array.getElem?_eq_some_iff.1 h).1
theorem Blk.cell {w : World} {b : Nat} {cs : List Value} {t : TypeId} (h : Blk w b cs t) (j : Nat) : w.cell? ⟨b, j, none⟩ = cs[j]? := by
  simp [World.cell?, show w.heap[b]? = _ from h]
theorem Blk.free {w : World} {b : Nat} {cs : List Value} {t : TypeId} (h : Blk w b cs t) (j : Nat) : w.frozen? ⟨b, j, none⟩ = false := by
  simp [World.frozen?, show w.heap[b]? = _ from h]
theorem Blk.kept {w w1 : World} {b : Nat} {cs : List Value} {t : TypeId} (h : Blk w b cs t) {Pr : Nat → Prop} (hk : Keeps Pr w w1) (hn : ¬ Pr b) : Blk w1 b cs t := (hk.block b h.lt hn).trans h
theorem Blk.other {w : World} {b : Nat} {cs : List Value} {t : TypeId} (h : Blk w b cs t) {p : Addr} (hn : b ≠ p.block) (u : Value) : Blk (w.setCell p u) b cs t := (Below.heap_setCell w p u b hn).trans h
theorem Blk.set {w : World} {b : Nat} {cs : List Value} {t : TypeId} (h : Blk w b cs t) (j : Nat) (u : Value) : Blk (w.setCell ⟨b, j, none⟩ u) b (cs.set j u) t := by
  have h' : w.heap[b]? = _ := h
  simp [Blk, World.setCell, Array.getElem?_modify, h', List.setIfInBounds_toArray]
theorem Blk.alloc {w : World} {b : Nat} {cs : List Value} {t : TypeId} (h : Blk w b cs t) (o : Obj) : Blk (w.alloc o) b cs t := (Below.heap_alloc w o b h.lt).trans h
theorem Blk.drew {w : World} {b : Nat} {cs : List Value} {t : TypeId} (h : Blk w b cs t) : Blk w.drew b cs t := h
theorem Blk.drewN {w : World} {b : Nat} {cs : List Value} {t : TypeId} (h : Blk w b cs t) (n : Nat) : Blk (w.drewN n) b cs t := h
theorem blk_new (w : World) (cs : List Value) (t : TypeId) : Blk (w.alloc (.cells cs.toArray t (0, 0))) w.heap.size cs t := heap_alloc_new w _
theorem Blk.setObj {w : World} {b k : Nat} {cs : List Value} {t : TypeId} (h : Blk w b cs t) (hn : b ≠ k) (o : Obj) : Blk (setObjAt w k o) b cs t := by
  have h' : w.heap[b]? = _ := h
  simp [Blk, setObjAt, Array.getElem?_setIfInBounds, Ne.symm hn, h']

theorem natCells_get (k : IntKind) (xs : List Nat) (j : Nat) (h : j < xs.length) : (natCells k xs)[j]? = some (.int k (xs.getD j 0 : Nat)) := by
  simp [natCells, List.getD_eq_getElem?_getD, List.getElem?_eq_getElem h]
theorem natCells_set (k : IntKind) (xs : List Nat) (j x : Nat) : (natCells k xs).set j (.int k (x : Int)) = natCells k (xs.set j x) := by simp [natCells, List.map_set]
theorem natCells_len (k : IntKind) (xs : List Nat) : (natCells k xs).length = xs.length := by simp [natCells]

/-- 'xs[m:]' of elements of some cells. -/
theorem cut_rows {P : Program} (t e : TypeId) (sz : Nat) {i : TypeInfo} (ht : P.underlying t = some (.slice e)) (hi : P.info? e = some i) (hsz : i.size = sz) (A : Option Addr) (n c m : Nat) (hm : m ≤ n) (hc : n ≤ c) :
    ∃ A' : Option Addr, (∀ W : World, (Instr.slice t (.slice A n c) (some (.int .i64 (m : Int))) none none).run P W = .ok (.slice A' (n - m) (c - m)) W) ∧
      ∀ g o, A = some ⟨g, o, none⟩ → m < n → A' = some ⟨g, o + m * sz, none⟩ := by
  refine ⟨if c = m then A else A.map (·.add (m * sz)), fun W => ?_, fun g o h1 h2 => ?_⟩
  · have hel : P.elem t = e := by simp [Program.elem, ht]
    have hu : P.underlying t = some (.slice (P.elem t)) := by rw [hel]; exact ht
    rw [run_slice_l W t A n c hu .i64 (m : Int) (Int.natCast_nonneg _) (by omega), hel]
    simp [sizeOf, typeInfo, hi, hsz, sliced, Result.andThen]
  · subst h1
    rw [if_neg (by omega)]
    simp only [Option.map_some, Option.some.injEq]
    unfold Addr.add
    split
    · rename_i h; rw [h]; rfl
    · rfl
theorem max2_nat (k : IntKind) (a b : Nat) : Builtin.max2 (.int k (a : Int)) (.int k (b : Int)) = pure (.int k ((max a b : Nat) : Int)) := by
  simp only [Builtin.max2, gt_iff_lt]
  by_cases h : (a : Int) < (b : Int)
  · rw [if_pos h, Nat.max_eq_right (by omega)]
  · rw [if_neg h, Nat.max_eq_left (by omega)]
theorem min2_nat (k : IntKind) (a b : Nat) : Builtin.min2 (.int k (a : Int)) (.int k (b : Int)) = pure (.int k ((min a b : Nat) : Int)) := by
  simp only [Builtin.min2]
  by_cases h : (b : Int) < (a : Int)
  · rw [if_pos h, Nat.min_eq_right (by omega)]
  · rw [if_neg h, Nat.min_eq_left (by omega)]
theorem info_size {P : Program} {e sz : Nat} (h : (P.info? e).map (·.size) = some sz) : ∃ i, P.info? e = some i ∧ i.size = sz := Option.map_eq_some_iff.1 h

end Go.Proofs.Ytajmbafljncjcaa.Mp
