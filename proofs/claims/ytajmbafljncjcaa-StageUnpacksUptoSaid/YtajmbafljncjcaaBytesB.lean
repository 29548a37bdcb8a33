/- A block of bytes of one's own (what a conversion of a string laid). -/
import Derived.Test.YtajmbafljncjcaaStA
import Derived.Laws.IdiomStrings
import Derived.Lib.SlBytesRow
namespace Go.Proofs.Ytajmbafljncjcaa.Stage
open Go.RowKit Go.Proofs.YtajmbafljncjcaaW.PrintWords Go.Proofs.YtajmbafljncjcaaW.PrintLast Go.Proofs.YtajmbafljncjcaaW.PrintMore
set_option linter.unusedVariables false

def BBlk (w : World) (b : Nat) (cs : List Value) (t : TypeId) (n : Nat) : Prop := w.heap[b]? = some (.cells cs.toArray t (n, n + 1))
theorem BBlk.lt {w : World} {b n : Nat} {cs : List Value} {t : TypeId} (h : BBlk w b cs t n) : b < w.heap.size := (Array.getElem?_eq_some_iff.1 h).1
theorem BBlk.cell {w : World} {b n : Nat} {cs : List Value} {t : TypeId} (h : BBlk w b cs t n) (j : Nat) : w.cell? ⟨b, j, none⟩ = cs[j]? := by
  rw [cell_of_row w b j cs.toArray t (n, n + 1) h]
  simp
theorem BBlk.free {w : World} {b n : Nat} {cs : List Value} {t : TypeId} (h : BBlk w b cs t n) (j : Nat) (hj : j < n) : w.frozen? ⟨b, j, none⟩ = false := by
  have h' : w.heap[b]? = some (.cells cs.toArray t (n, n + 1)) := h
  simp [World.frozen?, h']
  omega
theorem BBlk.step {w w1 : World} {b n B : Nat} {cs : List Value} {t : TypeId} (h : BBlk w b cs t n) (hB : b < B) (hb : Below B w w1) : BBlk w1 b cs t n := (hb.block b hB).trans h
theorem BBlk.other {w : World} {b n : Nat} {cs : List Value} {t : TypeId} (h : BBlk w b cs t n) {p : Addr} (hn : b ≠ p.block) (u : Value) : BBlk (w.setCell p u) b cs t n := (Below.heap_setCell w p u b hn).trans h
theorem BBlk.set {w : World} {b n : Nat} {cs : List Value} {t : TypeId} (h : BBlk w b cs t n) (j : Nat) (u : Value) : BBlk (w.setCell ⟨b, j, none⟩ u) b (cs.set j u) t n := by
  have h' : w.heap[b]? = _ := h
  simp [BBlk, World.setCell, Array.getElem?_modify, h', List.setIfInBounds_toArray]
theorem BBlk.drewN {w : World} {b n : Nat} {cs : List Value} {t : TypeId} (h : BBlk w b cs t n) (m : Nat) : BBlk (w.drewN m) b cs t n := h
/-- Bytes as cells. -/
def u8s (l : List UInt8) : List Value := l.map fun b => .int .u8 (b.toNat : Int)
theorem u8s_get (l : List UInt8) (r : List Value) (i : Nat) (hi : i < l.length) : (u8s l ++ r)[i]? = some (.int .u8 ((l.getD i 0).toNat : Int)) := by
  unfold u8s
  rw [List.getElem?_append_left (by rw [List.length_map]; exact hi), List.getElem?_map, List.getD_eq_getElem?_getD, List.getElem?_eq_getElem hi]
  rfl
theorem u8s_set (l : List UInt8) (r : List Value) (i : Nat) (hi : i < l.length) (b : UInt8) : (u8s l ++ r).set i (.int .u8 (b.toNat : Int)) = u8s (l.set i b) ++ r := by
  unfold u8s
  rw [List.set_append_left _ _ (by rw [List.length_map]; exact hi), List.map_set]
theorem bytesRow_list (s : ByteArray) (cap : Nat) : bytesRow s cap = (u8s s.data.toList ++ List.replicate (cap - s.size) (Value.int .u8 0)).toArray := by
  apply Array.toList_inj.1
  simp [bytesRow, u8s]
theorem bb_new (w : World) (s : ByteArray) (cap : Nat) (t : TypeId) (n : Nat) : BBlk (w.drew.alloc (.cells (bytesRow s cap) t (n, n + 1))) w.heap.size (u8s s.data.toList ++ List.replicate (cap - s.size) (Value.int .u8 0)) t n := by
  have := heap_alloc_new w.drew (.cells (bytesRow s cap) t (n, n + 1))
  rw [bytesRow_list] at this ⊢
  exact this
/-- The bytes, to be turned into a string again. -/
theorem BBlk.bytes {w : World} {b n : Nat} {l : List UInt8} {r : List Value} {t : TypeId} (h : BBlk w b (u8s l ++ r) t n) : Go.Lib.Bytes w b 0 ⟨l.toArray⟩ := fun i hi => by
  have hi' : i < l.length := by simpa [ByteArray.size] using hi
  rw [Nat.zero_add, h.cell i, u8s_get l r i hi', List.getD_eq_getElem?_getD, List.getElem?_eq_getElem hi']
  rfl

end Go.Proofs.Ytajmbafljncjcaa.Stage
