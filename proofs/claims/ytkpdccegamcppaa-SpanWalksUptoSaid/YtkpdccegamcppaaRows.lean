/-
  No cell of these rows narrows 'for every input' (looked for: loops, veiled, ifaces, maps, wideKeys, modest, calm, conditions, laid).
  DERIVED. THE GIVEN ROWS OF THIS SEAT. 8 by the template 'for every input the law returns true; each argument reads behind the call as it read before'; 0 by the template 'total and deterministic' (their statements: YtkpdccegamcppaaTotals.lean).
  GIVEN WITH THE SEED: the statements are not yours to turn. If you find one false, say at which input.
  Laid BY PROGRAM, IN A SANDBOX (cutbox-rows.mjs): the forced cells as the released guide's own fill.sh prints them over the translation edf81e415468bdf2… (all of the seat's roots in one cut). By AI agents, Wed Nov 11 2026. No macro, syntax, notation, axiom, sorry.
-/
import Derived.Test.YtkpdccegamcppaaChecked
import GoSem.Claim
import GoSem.ClaimJoined
import GoSem.ClaimMapViews
import Derived.JoinedTies
import Derived.KernelRfl
namespace Go.Proofs.Ytkpdccegamcppaa
/- THE CELL 'sum', in the pinned program and in every row, IS THE sha256 OF THE DUMP (.gsa) THAT YtkpdccegamcppaaProg.lean LOADS. Nothing in Lean hashes anything: it is a label: what it is worth is what the hold of that sum in a sandbox is worth. -/
noncomputable def Try.pinned : Pinned := { name := "ytkpdccegamcppaa", sum := "edf81e415468bdf2e1c2f3ffe985a3df8a791259fe336e33a614847f5fe5aa41", checked := Try.checked }
namespace Rows
def none {H : Type} : Left H := { results := [], args := [] }

/-- 'posternlaw07.SpanMakes': WHATEVER THE INPUT: true; the input reads as it did. -/
def spanMakesSpec : ChangeSpec := { name := "spanMakes", fn := fun _ => fun
  | [d] => { results := [.lit (.bool true)], args := [d] }
  | _ => none }
def spanMakesRow : OpenClaim := { program := "ytkpdccegamcppaa", sum := "edf81e415468bdf2e1c2f3ffe985a3df8a791259fe336e33a614847f5fe5aa41", func := "postern/posternlaw07.SpanMakes", spec := "spanMakes", unfollowed := true, recurses := true, apart := false }
def SpanMakesSaid : Prop := spanMakesRow.holds Try.pinned (OpenSpec.ofChange spanMakesSpec)

/-- ITS FALSE NEIGHBOUR: 'it returns false'. Refute it at one input. -/
def spanMakesWrong : ChangeSpec := { name := "spanMakes", fn := fun _ => fun
  | [d] => { results := [.lit (.bool false)], args := [d] }
  | _ => none }
def SpanMakesWrongFalsely : Prop := spanMakesRow.holds Try.pinned (OpenSpec.ofChange spanMakesWrong)

/-- 'posternlaw07.SpanWalks': WHATEVER THE INPUT: true; the input reads as it did. -/
def spanWalksSpec : ChangeSpec := { name := "spanWalks", fn := fun _ => fun
  | [d1, d2] => { results := [.lit (.bool true)], args := [d1, d2] }
  | _ => none }
def spanWalksRow : OpenClaim := { program := "ytkpdccegamcppaa", sum := "edf81e415468bdf2e1c2f3ffe985a3df8a791259fe336e33a614847f5fe5aa41", func := "postern/posternlaw07.SpanWalks", spec := "spanWalks", unfollowed := true, recurses := true, apart := false }
def SpanWalksSaid : Prop := spanWalksRow.holds Try.pinned (OpenSpec.ofChange spanWalksSpec)

/-- ITS FALSE NEIGHBOUR: 'it returns false'. Refute it at one input. -/
def spanWalksWrong : ChangeSpec := { name := "spanWalks", fn := fun _ => fun
  | [d1, d2] => { results := [.lit (.bool false)], args := [d1, d2] }
  | _ => none }
def SpanWalksWrongFalsely : Prop := spanWalksRow.holds Try.pinned (OpenSpec.ofChange spanWalksWrong)

/-- 'posternlaw07.SpanPuts': WHATEVER THE INPUT: true; the input reads as it did. -/
def spanPutsSpec : ChangeSpec := { name := "spanPuts", fn := fun _ => fun
  | [d1, d2, d3] => { results := [.lit (.bool true)], args := [d1, d2, d3] }
  | _ => none }
def spanPutsRow : OpenClaim := { program := "ytkpdccegamcppaa", sum := "edf81e415468bdf2e1c2f3ffe985a3df8a791259fe336e33a614847f5fe5aa41", func := "postern/posternlaw07.SpanPuts", spec := "spanPuts", unfollowed := true, recurses := true, apart := false }
def SpanPutsSaid : Prop := spanPutsRow.holds Try.pinned (OpenSpec.ofChange spanPutsSpec)

/-- ITS FALSE NEIGHBOUR: 'it returns false'. Refute it at one input. -/
def spanPutsWrong : ChangeSpec := { name := "spanPuts", fn := fun _ => fun
  | [d1, d2, d3] => { results := [.lit (.bool false)], args := [d1, d2, d3] }
  | _ => none }
def SpanPutsWrongFalsely : Prop := spanPutsRow.holds Try.pinned (OpenSpec.ofChange spanPutsWrong)

/-- 'posternlaw07.SpanMemory': WHATEVER THE INPUT: true; the input reads as it did. -/
def spanMemorySpec : ChangeSpec := { name := "spanMemory", fn := fun _ => fun
  | [d1, d2] => { results := [.lit (.bool true)], args := [d1, d2] }
  | _ => none }
def spanMemoryRow : OpenClaim := { program := "ytkpdccegamcppaa", sum := "edf81e415468bdf2e1c2f3ffe985a3df8a791259fe336e33a614847f5fe5aa41", func := "postern/posternlaw07.SpanMemory", spec := "spanMemory", unfollowed := true, recurses := true, apart := false }
def SpanMemorySaid : Prop := spanMemoryRow.holds Try.pinned (OpenSpec.ofChange spanMemorySpec)

/-- ITS FALSE NEIGHBOUR: 'it returns false'. Refute it at one input. -/
def spanMemoryWrong : ChangeSpec := { name := "spanMemory", fn := fun _ => fun
  | [d1, d2] => { results := [.lit (.bool false)], args := [d1, d2] }
  | _ => none }
def SpanMemoryWrongFalsely : Prop := spanMemoryRow.holds Try.pinned (OpenSpec.ofChange spanMemoryWrong)

/-- 'posternlaw07.SpanAsks': WHATEVER THE INPUT: true; the input reads as it did. -/
def spanAsksSpec : ChangeSpec := { name := "spanAsks", fn := fun _ => fun
  | [d1, d2, d3] => { results := [.lit (.bool true)], args := [d1, d2, d3] }
  | _ => none }
def spanAsksRow : OpenClaim := { program := "ytkpdccegamcppaa", sum := "edf81e415468bdf2e1c2f3ffe985a3df8a791259fe336e33a614847f5fe5aa41", func := "postern/posternlaw07.SpanAsks", spec := "spanAsks", unfollowed := true, recurses := true, apart := false }
def SpanAsksSaid : Prop := spanAsksRow.holds Try.pinned (OpenSpec.ofChange spanAsksSpec)

/-- ITS FALSE NEIGHBOUR: 'it returns false'. Refute it at one input. -/
def spanAsksWrong : ChangeSpec := { name := "spanAsks", fn := fun _ => fun
  | [d1, d2, d3] => { results := [.lit (.bool false)], args := [d1, d2, d3] }
  | _ => none }
def SpanAsksWrongFalsely : Prop := spanAsksRow.holds Try.pinned (OpenSpec.ofChange spanAsksWrong)

/-- 'posternlaw07.SpanTexts': WHATEVER THE INPUT: true; the input reads as it did. -/
def spanTextsSpec : ChangeSpec := { name := "spanTexts", fn := fun _ => fun
  | [d1, d2] => { results := [.lit (.bool true)], args := [d1, d2] }
  | _ => none }
def spanTextsRow : OpenClaim := { program := "ytkpdccegamcppaa", sum := "edf81e415468bdf2e1c2f3ffe985a3df8a791259fe336e33a614847f5fe5aa41", func := "postern/posternlaw07.SpanTexts", spec := "spanTexts", inPlace := ["internal/bytealg.IndexByteString"], unfollowed := true, recurses := true, apart := false }
def SpanTextsSaid : Prop := spanTextsRow.holds Try.pinned (OpenSpec.ofChange spanTextsSpec)

/-- ITS FALSE NEIGHBOUR: 'it returns false'. Refute it at one input. -/
def spanTextsWrong : ChangeSpec := { name := "spanTexts", fn := fun _ => fun
  | [d1, d2] => { results := [.lit (.bool false)], args := [d1, d2] }
  | _ => none }
def SpanTextsWrongFalsely : Prop := spanTextsRow.holds Try.pinned (OpenSpec.ofChange spanTextsWrong)

/-- 'posternlaw07.SpanBack': WHATEVER THE INPUT: true; the input reads as it did. -/
def spanBackSpec : ChangeSpec := { name := "spanBack", fn := fun _ => fun
  | [d1, d2] => { results := [.lit (.bool true)], args := [d1, d2] }
  | _ => none }
def spanBackRow : OpenClaim := { program := "ytkpdccegamcppaa", sum := "edf81e415468bdf2e1c2f3ffe985a3df8a791259fe336e33a614847f5fe5aa41", func := "postern/posternlaw07.SpanBack", spec := "spanBack", inPlace := ["internal/bytealg.IndexByteString"], unfollowed := true, recurses := true, apart := false }
def SpanBackSaid : Prop := spanBackRow.holds Try.pinned (OpenSpec.ofChange spanBackSpec)

/-- ITS FALSE NEIGHBOUR: 'it returns false'. Refute it at one input. -/
def spanBackWrong : ChangeSpec := { name := "spanBack", fn := fun _ => fun
  | [d1, d2] => { results := [.lit (.bool false)], args := [d1, d2] }
  | _ => none }
def SpanBackWrongFalsely : Prop := spanBackRow.holds Try.pinned (OpenSpec.ofChange spanBackWrong)

/-- 'posternlaw07.SpanLaws': WHATEVER THE INPUT: true; the input reads as it did. -/
def spanLawsSpec : ChangeSpec := { name := "spanLaws", fn := fun _ => fun
  | [d1, d2, d3] => { results := [.lit (.bool true)], args := [d1, d2, d3] }
  | _ => none }
def spanLawsRow : OpenClaim := { program := "ytkpdccegamcppaa", sum := "edf81e415468bdf2e1c2f3ffe985a3df8a791259fe336e33a614847f5fe5aa41", func := "postern/posternlaw07.SpanLaws", spec := "spanLaws", unfollowed := true, recurses := true, apart := false }
def SpanLawsSaid : Prop := spanLawsRow.holds Try.pinned (OpenSpec.ofChange spanLawsSpec)

/-- ITS FALSE NEIGHBOUR: 'it returns false'. Refute it at one input. -/
def spanLawsWrong : ChangeSpec := { name := "spanLaws", fn := fun _ => fun
  | [d1, d2, d3] => { results := [.lit (.bool false)], args := [d1, d2, d3] }
  | _ => none }
def SpanLawsWrongFalsely : Prop := spanLawsRow.holds Try.pinned (OpenSpec.ofChange spanLawsWrong)

/- THE SECOND FORM. 'bulk': how many values and letters a reading holds, each counted each time it is reached (what is shared counts as often as it is met; a slice's spare places count too). A statement '..UptoSaid' is the law's where the arguments, and the package variables that the reading takes, are together of bulk at most 1048576: NARROWER than '..Said'. Prove '..Said' where nothing that the law and all that it calls make is longer than what came in: it says more and counts as full. Else prove '..UptoSaid'. A law counts once. -/
mutual
def uptoBulk {H : Type} : DataW H → Nat
  | .lit (.string bytes) => bytes.length + 1
  | .lit _ => 1
  | .nil => 1
  | .ptr d => uptoBulk d + 1
  | .slice elems spare => uptoBulkAll elems + uptoBulkAll spare + 1
  | .agg parts => uptoBulkAll parts + 1
  | .iface _ d => uptoBulk d + 1
  | .map entries => uptoBulkEntries entries + 1
  | .held _ => 1
def uptoBulkAll {H : Type} : List (DataW H) → Nat
  | [] => 0
  | d :: r => uptoBulk d + uptoBulkAll r
def uptoBulkEntries {H : Type} : List (Lit × DataW H) → Nat
  | [] => 0
  | x :: r => uptoBulkEntry x + uptoBulkEntries r
def uptoBulkEntry {H : Type} : Lit × DataW H → Nat
  | (.string bytes, d) => bytes.length + uptoBulk d + 1
  | (_, d) => uptoBulk d + 1
 end
def uptoSmall : (H : Type) → List (DataW H) → Bool := fun _ ds => decide (uptoBulkAll ds ≤ 1048576)
def OpenSpec.upto (s : _root_.Go.ChangeSpec) : _root_.Go.OpenSpec := { _root_.Go.OpenSpec.ofChange s with cond := some uptoSmall }

/-- 'posternlaw07.SpanMakes', WHERE WHAT IT READS IS OF BULK AT MOST 1048576: true; the input reads as it did. -/
def spanMakesUptoRow : OpenClaim := { program := "ytkpdccegamcppaa", sum := "edf81e415468bdf2e1c2f3ffe985a3df8a791259fe336e33a614847f5fe5aa41", func := "postern/posternlaw07.SpanMakes", spec := "spanMakes", unfollowed := true, recurses := true, apart := false, narrowed := true }
def SpanMakesUptoSaid : Prop := spanMakesUptoRow.holds Try.pinned (OpenSpec.upto spanMakesSpec)

/-- 'posternlaw07.SpanWalks', WHERE WHAT IT READS IS OF BULK AT MOST 1048576: true; the input reads as it did. -/
def spanWalksUptoRow : OpenClaim := { program := "ytkpdccegamcppaa", sum := "edf81e415468bdf2e1c2f3ffe985a3df8a791259fe336e33a614847f5fe5aa41", func := "postern/posternlaw07.SpanWalks", spec := "spanWalks", unfollowed := true, recurses := true, apart := false, narrowed := true }
def SpanWalksUptoSaid : Prop := spanWalksUptoRow.holds Try.pinned (OpenSpec.upto spanWalksSpec)

/-- 'posternlaw07.SpanPuts', WHERE WHAT IT READS IS OF BULK AT MOST 1048576: true; the input reads as it did. -/
def spanPutsUptoRow : OpenClaim := { program := "ytkpdccegamcppaa", sum := "edf81e415468bdf2e1c2f3ffe985a3df8a791259fe336e33a614847f5fe5aa41", func := "postern/posternlaw07.SpanPuts", spec := "spanPuts", unfollowed := true, recurses := true, apart := false, narrowed := true }
def SpanPutsUptoSaid : Prop := spanPutsUptoRow.holds Try.pinned (OpenSpec.upto spanPutsSpec)

/-- 'posternlaw07.SpanMemory', WHERE WHAT IT READS IS OF BULK AT MOST 1048576: true; the input reads as it did. -/
def spanMemoryUptoRow : OpenClaim := { program := "ytkpdccegamcppaa", sum := "edf81e415468bdf2e1c2f3ffe985a3df8a791259fe336e33a614847f5fe5aa41", func := "postern/posternlaw07.SpanMemory", spec := "spanMemory", unfollowed := true, recurses := true, apart := false, narrowed := true }
def SpanMemoryUptoSaid : Prop := spanMemoryUptoRow.holds Try.pinned (OpenSpec.upto spanMemorySpec)

/-- 'posternlaw07.SpanAsks', WHERE WHAT IT READS IS OF BULK AT MOST 1048576: true; the input reads as it did. -/
def spanAsksUptoRow : OpenClaim := { program := "ytkpdccegamcppaa", sum := "edf81e415468bdf2e1c2f3ffe985a3df8a791259fe336e33a614847f5fe5aa41", func := "postern/posternlaw07.SpanAsks", spec := "spanAsks", unfollowed := true, recurses := true, apart := false, narrowed := true }
def SpanAsksUptoSaid : Prop := spanAsksUptoRow.holds Try.pinned (OpenSpec.upto spanAsksSpec)

/-- 'posternlaw07.SpanTexts', WHERE WHAT IT READS IS OF BULK AT MOST 1048576: true; the input reads as it did. -/
def spanTextsUptoRow : OpenClaim := { program := "ytkpdccegamcppaa", sum := "edf81e415468bdf2e1c2f3ffe985a3df8a791259fe336e33a614847f5fe5aa41", func := "postern/posternlaw07.SpanTexts", spec := "spanTexts", inPlace := ["internal/bytealg.IndexByteString"], unfollowed := true, recurses := true, apart := false, narrowed := true }
def SpanTextsUptoSaid : Prop := spanTextsUptoRow.holds Try.pinned (OpenSpec.upto spanTextsSpec)

/-- 'posternlaw07.SpanBack', WHERE WHAT IT READS IS OF BULK AT MOST 1048576: true; the input reads as it did. -/
def spanBackUptoRow : OpenClaim := { program := "ytkpdccegamcppaa", sum := "edf81e415468bdf2e1c2f3ffe985a3df8a791259fe336e33a614847f5fe5aa41", func := "postern/posternlaw07.SpanBack", spec := "spanBack", inPlace := ["internal/bytealg.IndexByteString"], unfollowed := true, recurses := true, apart := false, narrowed := true }
def SpanBackUptoSaid : Prop := spanBackUptoRow.holds Try.pinned (OpenSpec.upto spanBackSpec)

/-- 'posternlaw07.SpanLaws', WHERE WHAT IT READS IS OF BULK AT MOST 1048576: true; the input reads as it did. -/
def spanLawsUptoRow : OpenClaim := { program := "ytkpdccegamcppaa", sum := "edf81e415468bdf2e1c2f3ffe985a3df8a791259fe336e33a614847f5fe5aa41", func := "postern/posternlaw07.SpanLaws", spec := "spanLaws", unfollowed := true, recurses := true, apart := false, narrowed := true }
def SpanLawsUptoSaid : Prop := spanLawsUptoRow.holds Try.pinned (OpenSpec.upto spanLawsSpec)

end Rows
end Go.Proofs.Ytkpdccegamcppaa
