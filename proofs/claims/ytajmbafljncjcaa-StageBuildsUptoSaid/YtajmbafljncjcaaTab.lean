/- A table in memory: its cells, what it says; no function is walked here. -/
import Derived.Test.YtajmbafljncjcaaWMore
import Derived.Test.YtajmbafljncjcaaChecked
namespace Go.Proofs.Ytajmbafljncjcaa.Stage
open Go.RowKit Go.Proofs.YtajmbafljncjcaaW.PrintWords Go.Proofs.YtajmbafljncjcaaW.PrintLast Go.Proofs.YtajmbafljncjcaaW.PrintMore
set_option linter.unusedVariables false
set_option linter.unusedSimpArgs false

/-- Which block each stretch is, the unlike blocks, whether each has one number alone. -/
structure Tab where
  which : List Nat
  unlike : List (List Nat)
  plain : List Bool

/-- A table's cells. -/
structure TabIn (w : World) (b g c g' c' : Nat) (t : Tab) : Prop where
  len : t.which.length = 8704
  plen : t.plain.length = t.unlike.length
  cap : t.unlike.length ≤ c
  cap' : t.unlike.length ≤ c'
  few : t.unlike.length ≤ 8704
  idx : ∀ i, i < 8704 → t.which.getD i 0 < t.unlike.length
  blk : ∀ k, k < t.unlike.length → (t.unlike.getD k []).length = 128
  num : ∀ k j, k < t.unlike.length → j < 128 → (t.unlike.getD k []).getD j 0 ≤ 65535
  hw : ∀ i, i < 8704 → w.cell? ⟨b, i, none⟩ = some (.int .u16 (t.which.getD i 0 : Nat))
  hu : w.cell? ⟨b, 8704, none⟩ = some (.slice (some ⟨g, 0, none⟩) t.unlike.length c)
  hp : w.cell? ⟨b, 8705, none⟩ = some (.slice (some ⟨g', 0, none⟩) t.unlike.length c')
  hub : ∀ k j, k < t.unlike.length → j < 128 → w.cell? ⟨g, k * 128 + j, none⟩ = some (.int .u16 ((t.unlike.getD k []).getD j 0 : Nat))
  hpb : ∀ k, k < t.unlike.length → w.cell? ⟨g', k, none⟩ = some (.bool (t.plain.getD k false))

/-- What a table says of a code point. -/
def Tab.say (t : Tab) (p : Nat) : Nat := (t.unlike.getD (t.which.getD (p / 128) 0) []).getD (p % 128) 0

theorem TabIn.below {w w1 : World} {b g c g' c' : Nat} {t : Tab} (h : TabIn w b g c g' c' t) (hb : Below w.heap.size w w1) : TabIn w1 b g c g' c' t :=
  { h with
    hw := fun i hi => pw_cell_below hb (h.hw i hi)
    hu := pw_cell_below hb h.hu
    hp := pw_cell_below hb h.hp
    hub := fun k j hk hj => pw_cell_below hb (h.hub k j hk hj)
    hpb := fun k hk => pw_cell_below hb (h.hpb k hk) }

theorem cell_same {w w1 : World} (h : ∀ k, k < w.heap.size → w1.heap[k]? = w.heap[k]?) {a : Addr} {v : Value} (hc : w.cell? a = some v) : w1.cell? a = some v :=
  (World.cell?_of_block (h a.block (World.block_lt_of_cell? w a hc))).trans hc
theorem TabIn.same {w w1 : World} {b g c g' c' : Nat} {t : Tab} (h : TabIn w b g c g' c' t) (hb : ∀ k, k < w.heap.size → w1.heap[k]? = w.heap[k]?) : TabIn w1 b g c g' c' t :=
  { h with
    hw := fun i hi => cell_same hb (h.hw i hi)
    hu := cell_same hb h.hu
    hp := cell_same hb h.hp
    hub := fun k j hk hj => cell_same hb (h.hub k j hk hj)
    hpb := fun k hk => cell_same hb (h.hpb k hk) }

end Go.Proofs.Ytajmbafljncjcaa.Stage
