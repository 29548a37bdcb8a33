/- Words of this session's own on blocks and rows, for the span seat. -/
import Derived.Test.YtkpdccegamcppaaPSpanx0
import Derived.Test.YtkpdccegamcppaaChecked
namespace Go.Proofs.Ytkpdccegamcppaa.PSpan
open Go.RowKit Go.Proofs.YtkpdccegamcppaaW.PrintWords Go.Proofs.YtkpdccegamcppaaW.PrintLast Go.Proofs.YtkpdccegamcppaaW.PrintMore
set_option linter.unusedVariables false
set_option linter.unusedSimpArgs false

theorem call_enters {P : Program} {f : FuncId} {fn : Func} (hf : P.funcs[f]? = some fn) (hname : (fn.name == "runtime.NumGoroutine") = false) (hb : fn.body.isNone = false) (args : Array Value) (w : World) : (callFunc f args).run P w = .ok (.enter f args) w := by
  have h1 : ¬ fn.name = "runtime.NumGoroutine" := by simpa using hname
  have h2 : ¬ fn.body = none := fun e => by rw [e] at hb; cases hb
  simp [callFunc, go_sem, hf, h1, h2]
theorem alloc_size (w : World) (o : Obj) : (w.alloc o).heap.size = w.heap.size + 1 := by simp
/-- A block of whole numbers that is one's own. -/
def Blk (w : World) (b : Nat) (cs : List Value) (t : TypeId) : Prop := w.heap[b]? = some (.cells cs.toArray t (0, 0))

theorem Blk.lt {w : World} {b : Nat} {cs : List Value} {t : TypeId} (h : Blk w b cs t) : b < w.heap.size := (Array.getElem?_eq_some_iff.1 h).1
theorem Blk.cell {w : World} {b : Nat} {cs : List Value} {t : TypeId} (h : Blk w b cs t) (j : Nat) : w.cell? ⟨b, j, none⟩ = cs[j]? := by
  simp [World.cell?, show w.heap[b]? = _ from h]
theorem Blk.free {w : World} {b : Nat} {cs : List Value} {t : TypeId} (h : Blk w b cs t) (j : Nat) : w.frozen? ⟨b, j, none⟩ = false := by
  simp [World.frozen?, show w.heap[b]? = _ from h]
theorem Blk.other {w : World} {b : Nat} {cs : List Value} {t : TypeId} (h : Blk w b cs t) {p : Addr} (hn : b ≠ p.block) (u : Value) : Blk (w.setCell p u) b cs t := (Below.heap_setCell w p u b hn).trans h
theorem Blk.set {w : World} {b : Nat} {cs : List Value} {t : TypeId} (h : Blk w b cs t) (j : Nat) (u : Value) : Blk (w.setCell ⟨b, j, none⟩ u) b (cs.set j u) t := by
  have h' : w.heap[b]? = _ := h
  simp [Blk, World.setCell, Array.getElem?_modify, h', List.setIfInBounds_toArray]
theorem Blk.alloc {w : World} {b : Nat} {cs : List Value} {t : TypeId} (h : Blk w b cs t) (o : Obj) : Blk (w.alloc o) b cs t := (Below.heap_alloc w o b h.lt).trans h
theorem Blk.drew {w : World} {b : Nat} {cs : List Value} {t : TypeId} (h : Blk w b cs t) : Blk w.drew b cs t := h
theorem Blk.drewN {w : World} {b : Nat} {cs : List Value} {t : TypeId} (h : Blk w b cs t) (n : Nat) : Blk (w.drewN n) b cs t := h
theorem blk_new (w : World) (cs : List Value) (t : TypeId) : Blk (w.alloc (.cells cs.toArray t (0, 0))) w.heap.size cs t := heap_alloc_new w _
def Yes (w : World) (e : Ending) (w' : World) : Prop := e = .returned (.bool true) ∧ Below w.heap.size w w'
theorem w64 {a : Int} (h0 : -9223372036854775808 ≤ a) (h1 : a ≤ 9223372036854775807) : wrap64 a = a := by unfold wrap64; omega
theorem w32 {a : Int} (h0 : -2147483648 ≤ a) (h1 : a ≤ 2147483647) : wrap32 a = a := by unfold wrap32; omega
/-- Where a row of one's own begins. -/
theorem R_head {α : Type} {d : Kd α} {e base : Nat} {w : World} {ok : Nat → Prop} {A : Option Addr} {n c : Nat} {xs : List α} (h : d.R e w base ok (.slice A n c) xs) (hn : 0 < xs.length) : ∃ g cells, A = some ⟨g, 0, none⟩ ∧ w.heap[g]? = some (.cells cells e (0, 0)) ∧ base ≤ g := by
  obtain ⟨inner, how⟩ := Kd.R_own h
  have hsave := how
  rcases how.2 with ⟨h0, hz⟩ | ⟨g, cap, cur, hv', _⟩
  · omega
  · injection hv' with e1 e2 e3
    subst e1
    obtain ⟨cells, hc⟩ := own_typed hsave g rfl
    exact ⟨g, cells, rfl, hc, own_base hsave g rfl⟩
theorem R_cellsP {w : World} {base : Nat} {ok : Nat → Prop} {g n c : Nat} {xs : List S50} (h : Kd.R k50 50 w base ok (.slice (some ⟨g, 0, none⟩) n c) xs) (i : Nat) (hi : i < xs.length) :
    xs.length = n ∧ w.cell? ⟨g, i * 2, none⟩ = some (.int .i32 (rd_T50 xs (i : Int)).f0) ∧ w.cell? ⟨g, i * 2 + 1, none⟩ = some (.int .i32 (rd_T50 xs (i : Int)).f1) := by
  obtain ⟨A', c', hv, _, hC⟩ := Kd.R_reads h
  injection hv with e1 e2 e3
  subst e1
  obtain ⟨ad, e4, k0, k1⟩ := at_T50 hC (i : Int) (by omega) (by omega)
  cases e4
  rw [Int.toNat_natCast, Addr.add_lit] at k0 k1
  simp only [Nat.zero_add] at k0 k1
  exact ⟨e2.symm, k0, k1⟩

section
variable {ops : Array Oper} {rest : List Oper} {o : Oper} {a : Act} {Q : Exit → Act → World → Prop} {w0 W : World}
theorem store_PF (base : Nat) (hN : o.dst = none) (hgd : o.guard = none) (p x : Operand) (ho : o.op = .store 21 p x) {g n c : Nat} (i : Nat) (xs : List S50) (y : Int) {ok : Nat → Prop}
    (hp : a.eval p = .pointer (some ⟨g, i * 2, none⟩)) (hx : a.eval x = .int .i32 y) (HO : Kd.R k50 50 W base ok (.slice (some ⟨g, 0, none⟩) n c) xs) (hi : i < xs.length) (HB : Below base w0 W)
    (h : ∀ w1, Kd.R k50 50 w1 base ok (.slice (some ⟨g, 0, none⟩) n c) (xs.set i ⟨y, (rd_T50 xs (i : Int)).f1⟩) → Below base w0 w1 → W.grownBy w1 (some g) → wpList Try.prog ops Q rest a w1) : wpList Try.prog ops Q (o :: rest) a W := by
  obtain ⟨hn, k0, k1⟩ := R_cellsP HO i hi
  refine Kd.R_store k50 (w0 := w0) base hN hgd 21 p x ho 50 (g := g) (n := n) (cap := c) (i : Int) 0 xs ⟨y, (rd_T50 xs (i : Int)).f1⟩ (.int .i32 y) [.int .i32 y] [.int .i32 (rd_T50 xs (i : Int)).f0, .int .i32 (rd_T50 xs (i : Int)).f1] ok (fun _ => False) hp ?_ hx rfl (by kernel_rfl) ?_ HO (by omega) (by omega) rfl ?_ (Nat.le_of_ble_eq_true rfl) (k50_mkM _ _ _ _) (fun _ h => h.elim) HB ?_
  · show i * 2 = (i : Int).toNat * 2 + 0
    rw [Int.toNat_natCast]; rfl
  · intro q hq
    simp only [List.mem_cons, List.not_mem_nil, or_false] at hq
    rcases hq with rfl
    rfl
  · intro j u hu
    rw [Int.toNat_natCast]
    show W.cell? ⟨g, i * 2 + j, none⟩ = some u
    match j, hu with
    | 0, hu => cases hu; exact k0
    | 1, hu => cases hu; exact k1
  · intro w1 h1 h2 h3
    rw [Int.toNat_natCast] at h1
    exact h w1 h1 h2 h3
theorem store_PT (base : Nat) (hN : o.dst = none) (hgd : o.guard = none) (p x : Operand) (ho : o.op = .store 21 p x) {g n c : Nat} (i : Nat) (xs : List S50) (y : Int) {ok : Nat → Prop}
    (hp : a.eval p = .pointer (some ⟨g, i * 2 + 1, none⟩)) (hx : a.eval x = .int .i32 y) (HO : Kd.R k50 50 W base ok (.slice (some ⟨g, 0, none⟩) n c) xs) (hi : i < xs.length) (HB : Below base w0 W)
    (h : ∀ w1, Kd.R k50 50 w1 base ok (.slice (some ⟨g, 0, none⟩) n c) (xs.set i ⟨(rd_T50 xs (i : Int)).f0, y⟩) → Below base w0 w1 → W.grownBy w1 (some g) → wpList Try.prog ops Q rest a w1) : wpList Try.prog ops Q (o :: rest) a W := by
  obtain ⟨hn, k0, k1⟩ := R_cellsP HO i hi
  refine Kd.R_store k50 (w0 := w0) base hN hgd 21 p x ho 50 (g := g) (n := n) (cap := c) (i : Int) 1 xs ⟨(rd_T50 xs (i : Int)).f0, y⟩ (.int .i32 y) [.int .i32 y] [.int .i32 (rd_T50 xs (i : Int)).f0, .int .i32 (rd_T50 xs (i : Int)).f1] ok (fun _ => False) hp ?_ hx rfl (by kernel_rfl) ?_ HO (by omega) (by omega) rfl ?_ (Nat.le_of_ble_eq_true rfl) (k50_mkM _ _ _ _) (fun _ h => h.elim) HB ?_
  · show i * 2 + 1 = (i : Int).toNat * 2 + 1
    rw [Int.toNat_natCast]
  · intro q hq
    simp only [List.mem_cons, List.not_mem_nil, or_false] at hq
    rcases hq with rfl
    rfl
  · intro j u hu
    rw [Int.toNat_natCast]
    show W.cell? ⟨g, i * 2 + j, none⟩ = some u
    match j, hu with
    | 0, hu => cases hu; exact k0
    | 1, hu => cases hu; exact k1
  · intro w1 h1 h2 h3
    rw [Int.toNat_natCast] at h1
    exact h w1 h1 h2 h3
end

end Go.Proofs.Ytkpdccegamcppaa.PSpan
