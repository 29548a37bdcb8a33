/-
  No cell of these rows narrows 'for every input' (looked for: loops, veiled, ifaces, maps, wideKeys, modest, calm, conditions, laid).
  DERIVED. THE GIVEN ROWS OF THIS SEAT. 11 by the template 'for every input the law returns true; each argument reads behind the call as it read before'; 0 by the template 'total and deterministic' (their statements: YtajmbafljncjcaaTotals.lean).
  GIVEN WITH THE SEED: the statements are not yours to turn. If you find one false, say at which input.
  Laid BY PROGRAM, IN A SANDBOX (cutbox-rows.mjs): the forced cells as the released guide's own fill.sh prints them over the translation 1453b61dc56d9633… (all of the seat's roots in one cut). By AI agents, Wed Nov 11 2026. No macro, syntax, notation, axiom, sorry.
-/
import Derived.Test.YtajmbafljncjcaaChecked
import GoSem.Claim
import GoSem.ClaimJoined
import GoSem.ClaimMapViews
import Derived.JoinedTies
import Derived.KernelRfl
namespace Go.Proofs.Ytajmbafljncjcaa
/- THE CELL 'sum', in the pinned program and in every row, IS THE sha256 OF THE DUMP (.gsa) THAT YtajmbafljncjcaaProg.lean LOADS. Nothing in Lean hashes anything: it is a label: what it is worth is what the hold of that sum in a sandbox is worth. -/
noncomputable def Try.pinned : Pinned := { name := "ytajmbafljncjcaa", sum := "1453b61dc56d96335d8fd18ab3ae58e7bb29e572ee538a6dfb3ea1e823b4b354", checked := Try.checked }
namespace Rows
def none {H : Type} : Left H := { results := [], args := [] }

/-- 'posternlaw08.StageAll': WHATEVER THE INPUT: true; the input reads as it did. -/
def stageAllSpec : ChangeSpec := { name := "stageAll", fn := fun _ => fun
  | [d1, d2] => { results := [.lit (.bool true)], args := [d1, d2] }
  | _ => none }
def stageAllRow : OpenClaim := { program := "ytajmbafljncjcaa", sum := "1453b61dc56d96335d8fd18ab3ae58e7bb29e572ee538a6dfb3ea1e823b4b354", func := "postern/posternlaw08.StageAll", spec := "stageAll", unfollowed := true, recurses := true, plainKeys := false, apart := false }
def StageAllSaid : Prop := stageAllRow.holds Try.pinned (OpenSpec.ofChange stageAllSpec)

/-- ITS FALSE NEIGHBOUR: 'it returns false'. Refute it at one input. -/
def stageAllWrong : ChangeSpec := { name := "stageAll", fn := fun _ => fun
  | [d1, d2] => { results := [.lit (.bool false)], args := [d1, d2] }
  | _ => none }
def StageAllWrongFalsely : Prop := stageAllRow.holds Try.pinned (OpenSpec.ofChange stageAllWrong)

/-- 'posternlaw08.StageMemory': WHATEVER THE INPUT: true; the input reads as it did. -/
def stageMemorySpec : ChangeSpec := { name := "stageMemory", fn := fun _ => fun
  | [d1, d2] => { results := [.lit (.bool true)], args := [d1, d2] }
  | _ => none }
def stageMemoryRow : OpenClaim := { program := "ytajmbafljncjcaa", sum := "1453b61dc56d96335d8fd18ab3ae58e7bb29e572ee538a6dfb3ea1e823b4b354", func := "postern/posternlaw08.StageMemory", spec := "stageMemory", unfollowed := true, recurses := true, plainKeys := false, apart := false }
def StageMemorySaid : Prop := stageMemoryRow.holds Try.pinned (OpenSpec.ofChange stageMemorySpec)

/-- ITS FALSE NEIGHBOUR: 'it returns false'. Refute it at one input. -/
def stageMemoryWrong : ChangeSpec := { name := "stageMemory", fn := fun _ => fun
  | [d1, d2] => { results := [.lit (.bool false)], args := [d1, d2] }
  | _ => none }
def StageMemoryWrongFalsely : Prop := stageMemoryRow.holds Try.pinned (OpenSpec.ofChange stageMemoryWrong)

/-- 'posternlaw08.StageBuilds': WHATEVER THE INPUT: true; the input reads as it did. -/
def stageBuildsSpec : ChangeSpec := { name := "stageBuilds", fn := fun _ => fun
  | [d1, d2, d3] => { results := [.lit (.bool true)], args := [d1, d2, d3] }
  | _ => none }
def stageBuildsRow : OpenClaim := { program := "ytajmbafljncjcaa", sum := "1453b61dc56d96335d8fd18ab3ae58e7bb29e572ee538a6dfb3ea1e823b4b354", func := "postern/posternlaw08.StageBuilds", spec := "stageBuilds", unfollowed := true, recurses := true, plainKeys := false, apart := false }
def StageBuildsSaid : Prop := stageBuildsRow.holds Try.pinned (OpenSpec.ofChange stageBuildsSpec)

/-- ITS FALSE NEIGHBOUR: 'it returns false'. Refute it at one input. -/
def stageBuildsWrong : ChangeSpec := { name := "stageBuilds", fn := fun _ => fun
  | [d1, d2, d3] => { results := [.lit (.bool false)], args := [d1, d2, d3] }
  | _ => none }
def StageBuildsWrongFalsely : Prop := stageBuildsRow.holds Try.pinned (OpenSpec.ofChange stageBuildsWrong)

/-- 'posternlaw08.StageOver': WHATEVER THE INPUT: true; the input reads as it did. -/
def stageOverSpec : ChangeSpec := { name := "stageOver", fn := fun _ => fun
  | [d1, d2, d3] => { results := [.lit (.bool true)], args := [d1, d2, d3] }
  | _ => none }
def stageOverRow : OpenClaim := { program := "ytajmbafljncjcaa", sum := "1453b61dc56d96335d8fd18ab3ae58e7bb29e572ee538a6dfb3ea1e823b4b354", func := "postern/posternlaw08.StageOver", spec := "stageOver", unfollowed := true, recurses := true, plainKeys := false, apart := false }
def StageOverSaid : Prop := stageOverRow.holds Try.pinned (OpenSpec.ofChange stageOverSpec)

/-- ITS FALSE NEIGHBOUR: 'it returns false'. Refute it at one input. -/
def stageOverWrong : ChangeSpec := { name := "stageOver", fn := fun _ => fun
  | [d1, d2, d3] => { results := [.lit (.bool false)], args := [d1, d2, d3] }
  | _ => none }
def StageOverWrongFalsely : Prop := stageOverRow.holds Try.pinned (OpenSpec.ofChange stageOverWrong)

/-- 'posternlaw08.StageUnpacks': WHATEVER THE INPUT: true; the input reads as it did. -/
def stageUnpacksSpec : ChangeSpec := { name := "stageUnpacks", fn := fun _ => fun
  | [d1, d2] => { results := [.lit (.bool true)], args := [d1, d2] }
  | _ => none }
def stageUnpacksRow : OpenClaim := { program := "ytajmbafljncjcaa", sum := "1453b61dc56d96335d8fd18ab3ae58e7bb29e572ee538a6dfb3ea1e823b4b354", func := "postern/posternlaw08.StageUnpacks", spec := "stageUnpacks", unfollowed := true, recurses := true, plainKeys := false, apart := false }
def StageUnpacksSaid : Prop := stageUnpacksRow.holds Try.pinned (OpenSpec.ofChange stageUnpacksSpec)

/-- ITS FALSE NEIGHBOUR: 'it returns false'. Refute it at one input. -/
def stageUnpacksWrong : ChangeSpec := { name := "stageUnpacks", fn := fun _ => fun
  | [d1, d2] => { results := [.lit (.bool false)], args := [d1, d2] }
  | _ => none }
def StageUnpacksWrongFalsely : Prop := stageUnpacksRow.holds Try.pinned (OpenSpec.ofChange stageUnpacksWrong)

/-- 'posternlaw08.StageNil': WHATEVER THE INPUT: true; the input reads as it did. -/
def stageNilSpec : ChangeSpec := { name := "stageNil", fn := fun _ => fun
  | [d1, d2, d3] => { results := [.lit (.bool true)], args := [d1, d2, d3] }
  | _ => none }
def stageNilRow : OpenClaim := { program := "ytajmbafljncjcaa", sum := "1453b61dc56d96335d8fd18ab3ae58e7bb29e572ee538a6dfb3ea1e823b4b354", func := "postern/posternlaw08.StageNil", spec := "stageNil", unfollowed := true, recurses := true, plainKeys := false, apart := false }
def StageNilSaid : Prop := stageNilRow.holds Try.pinned (OpenSpec.ofChange stageNilSpec)

/-- ITS FALSE NEIGHBOUR: 'it returns false'. Refute it at one input. -/
def stageNilWrong : ChangeSpec := { name := "stageNil", fn := fun _ => fun
  | [d1, d2, d3] => { results := [.lit (.bool false)], args := [d1, d2, d3] }
  | _ => none }
def StageNilWrongFalsely : Prop := stageNilRow.holds Try.pinned (OpenSpec.ofChange stageNilWrong)

/-- 'posternlaw08.StageSwaps': WHATEVER THE INPUT: true; the input reads as it did. -/
def stageSwapsSpec : ChangeSpec := { name := "stageSwaps", fn := fun _ => fun
  | [d1, d2] => { results := [.lit (.bool true)], args := [d1, d2] }
  | _ => none }
def stageSwapsRow : OpenClaim := { program := "ytajmbafljncjcaa", sum := "1453b61dc56d96335d8fd18ab3ae58e7bb29e572ee538a6dfb3ea1e823b4b354", func := "postern/posternlaw08.StageSwaps", spec := "stageSwaps", unfollowed := true, recurses := true, plainKeys := false, apart := false }
def StageSwapsSaid : Prop := stageSwapsRow.holds Try.pinned (OpenSpec.ofChange stageSwapsSpec)

/-- ITS FALSE NEIGHBOUR: 'it returns false'. Refute it at one input. -/
def stageSwapsWrong : ChangeSpec := { name := "stageSwaps", fn := fun _ => fun
  | [d1, d2] => { results := [.lit (.bool false)], args := [d1, d2] }
  | _ => none }
def StageSwapsWrongFalsely : Prop := stageSwapsRow.holds Try.pinned (OpenSpec.ofChange stageSwapsWrong)

/-- 'posternlaw08.StagePacks': WHATEVER THE INPUT: true; the input reads as it did. -/
def stagePacksSpec : ChangeSpec := { name := "stagePacks", fn := fun _ => fun
  | [d1, d2] => { results := [.lit (.bool true)], args := [d1, d2] }
  | _ => none }
def stagePacksRow : OpenClaim := { program := "ytajmbafljncjcaa", sum := "1453b61dc56d96335d8fd18ab3ae58e7bb29e572ee538a6dfb3ea1e823b4b354", func := "postern/posternlaw08.StagePacks", spec := "stagePacks", unfollowed := true, recurses := true, plainKeys := false, apart := false }
def StagePacksSaid : Prop := stagePacksRow.holds Try.pinned (OpenSpec.ofChange stagePacksSpec)

/-- ITS FALSE NEIGHBOUR: 'it returns false'. Refute it at one input. -/
def stagePacksWrong : ChangeSpec := { name := "stagePacks", fn := fun _ => fun
  | [d1, d2] => { results := [.lit (.bool false)], args := [d1, d2] }
  | _ => none }
def StagePacksWrongFalsely : Prop := stagePacksRow.holds Try.pinned (OpenSpec.ofChange stagePacksWrong)

/-- 'posternlaw08.StageWheres': WHATEVER THE INPUT: true; the input reads as it did. -/
def stageWheresSpec : ChangeSpec := { name := "stageWheres", fn := fun _ => fun
  | [d1, d2, d3] => { results := [.lit (.bool true)], args := [d1, d2, d3] }
  | _ => none }
def stageWheresRow : OpenClaim := { program := "ytajmbafljncjcaa", sum := "1453b61dc56d96335d8fd18ab3ae58e7bb29e572ee538a6dfb3ea1e823b4b354", func := "postern/posternlaw08.StageWheres", spec := "stageWheres", unfollowed := true, recurses := true, plainKeys := false, apart := false }
def StageWheresSaid : Prop := stageWheresRow.holds Try.pinned (OpenSpec.ofChange stageWheresSpec)

/-- ITS FALSE NEIGHBOUR: 'it returns false'. Refute it at one input. -/
def stageWheresWrong : ChangeSpec := { name := "stageWheres", fn := fun _ => fun
  | [d1, d2, d3] => { results := [.lit (.bool false)], args := [d1, d2, d3] }
  | _ => none }
def StageWheresWrongFalsely : Prop := stageWheresRow.holds Try.pinned (OpenSpec.ofChange stageWheresWrong)

/-- 'posternlaw08.StageSums': WHATEVER THE INPUT: true; the input reads as it did. -/
def stageSumsSpec : ChangeSpec := { name := "stageSums", fn := fun _ => fun
  | [d1, d2] => { results := [.lit (.bool true)], args := [d1, d2] }
  | _ => none }
def stageSumsRow : OpenClaim := { program := "ytajmbafljncjcaa", sum := "1453b61dc56d96335d8fd18ab3ae58e7bb29e572ee538a6dfb3ea1e823b4b354", func := "postern/posternlaw08.StageSums", spec := "stageSums", unfollowed := true, recurses := true, plainKeys := false, apart := false }
def StageSumsSaid : Prop := stageSumsRow.holds Try.pinned (OpenSpec.ofChange stageSumsSpec)

/-- ITS FALSE NEIGHBOUR: 'it returns false'. Refute it at one input. -/
def stageSumsWrong : ChangeSpec := { name := "stageSums", fn := fun _ => fun
  | [d1, d2] => { results := [.lit (.bool false)], args := [d1, d2] }
  | _ => none }
def StageSumsWrongFalsely : Prop := stageSumsRow.holds Try.pinned (OpenSpec.ofChange stageSumsWrong)

/-- 'posternlaw08.StageDiffers': WHATEVER THE INPUT: true; the input reads as it did. -/
def stageDiffersSpec : ChangeSpec := { name := "stageDiffers", fn := fun _ => fun
  | [d1, d2] => { results := [.lit (.bool true)], args := [d1, d2] }
  | _ => none }
def stageDiffersRow : OpenClaim := { program := "ytajmbafljncjcaa", sum := "1453b61dc56d96335d8fd18ab3ae58e7bb29e572ee538a6dfb3ea1e823b4b354", func := "postern/posternlaw08.StageDiffers", spec := "stageDiffers", unfollowed := true, recurses := true, plainKeys := false, apart := false }
def StageDiffersSaid : Prop := stageDiffersRow.holds Try.pinned (OpenSpec.ofChange stageDiffersSpec)

/-- ITS FALSE NEIGHBOUR: 'it returns false'. Refute it at one input. -/
def stageDiffersWrong : ChangeSpec := { name := "stageDiffers", fn := fun _ => fun
  | [d1, d2] => { results := [.lit (.bool false)], args := [d1, d2] }
  | _ => none }
def StageDiffersWrongFalsely : Prop := stageDiffersRow.holds Try.pinned (OpenSpec.ofChange stageDiffersWrong)

/- THE SECOND FORM. 'bulk': how many values and letters a reading holds, each counted each time it is reached (what is shared counts as often as it is met; a slice's spare places count too). A statement '..UptoSaid' is the law's where the arguments, and the package variables that the reading takes, are together of bulk at most 1048576: NARROWER than '..Said'. Prove '..Said' where nothing that the law and all that it calls make is longer than what came in: it says more and counts as full. Else prove '..UptoSaid'. A law counts once. -/
mutual
def uptoBulk {H : Type} : DataW H → Nat
  | .lit (.string bytes) => bytes.length + 1
  | .lit _ => 1
  | .nil => 1
  | .ptr d => uptoBulk d + 1
  | .slice elems spare => uptoBulkAll elems + uptoBulkAll spare + 1
  | .agg parts => uptoBulkAll parts + 1
  | .iface _ d => uptoBulk d + 1
  | .map entries => uptoBulkEntries entries + 1
  | .held _ => 1
def uptoBulkAll {H : Type} : List (DataW H) → Nat
  | [] => 0
  | d :: r => uptoBulk d + uptoBulkAll r
def uptoBulkEntries {H : Type} : List (Lit × DataW H) → Nat
  | [] => 0
  | x :: r => uptoBulkEntry x + uptoBulkEntries r
def uptoBulkEntry {H : Type} : Lit × DataW H → Nat
  | (.string bytes, d) => bytes.length + uptoBulk d + 1
  | (_, d) => uptoBulk d + 1
 end
def uptoSmall : (H : Type) → List (DataW H) → Bool := fun _ ds => decide (uptoBulkAll ds ≤ 1048576)
def OpenSpec.upto (s : _root_.Go.ChangeSpec) : _root_.Go.OpenSpec := { _root_.Go.OpenSpec.ofChange s with cond := some uptoSmall }

/-- 'posternlaw08.StageAll', WHERE WHAT IT READS IS OF BULK AT MOST 1048576: true; the input reads as it did. -/
def stageAllUptoRow : OpenClaim := { program := "ytajmbafljncjcaa", sum := "1453b61dc56d96335d8fd18ab3ae58e7bb29e572ee538a6dfb3ea1e823b4b354", func := "postern/posternlaw08.StageAll", spec := "stageAll", unfollowed := true, recurses := true, plainKeys := false, apart := false, narrowed := true }
def StageAllUptoSaid : Prop := stageAllUptoRow.holds Try.pinned (OpenSpec.upto stageAllSpec)

/-- 'posternlaw08.StageMemory', WHERE WHAT IT READS IS OF BULK AT MOST 1048576: true; the input reads as it did. -/
def stageMemoryUptoRow : OpenClaim := { program := "ytajmbafljncjcaa", sum := "1453b61dc56d96335d8fd18ab3ae58e7bb29e572ee538a6dfb3ea1e823b4b354", func := "postern/posternlaw08.StageMemory", spec := "stageMemory", unfollowed := true, recurses := true, plainKeys := false, apart := false, narrowed := true }
def StageMemoryUptoSaid : Prop := stageMemoryUptoRow.holds Try.pinned (OpenSpec.upto stageMemorySpec)

/-- 'posternlaw08.StageBuilds', WHERE WHAT IT READS IS OF BULK AT MOST 1048576: true; the input reads as it did. -/
def stageBuildsUptoRow : OpenClaim := { program := "ytajmbafljncjcaa", sum := "1453b61dc56d96335d8fd18ab3ae58e7bb29e572ee538a6dfb3ea1e823b4b354", func := "postern/posternlaw08.StageBuilds", spec := "stageBuilds", unfollowed := true, recurses := true, plainKeys := false, apart := false, narrowed := true }
def StageBuildsUptoSaid : Prop := stageBuildsUptoRow.holds Try.pinned (OpenSpec.upto stageBuildsSpec)

/-- 'posternlaw08.StageOver', WHERE WHAT IT READS IS OF BULK AT MOST 1048576: true; the input reads as it did. -/
def stageOverUptoRow : OpenClaim := { program := "ytajmbafljncjcaa", sum := "1453b61dc56d96335d8fd18ab3ae58e7bb29e572ee538a6dfb3ea1e823b4b354", func := "postern/posternlaw08.StageOver", spec := "stageOver", unfollowed := true, recurses := true, plainKeys := false, apart := false, narrowed := true }
def StageOverUptoSaid : Prop := stageOverUptoRow.holds Try.pinned (OpenSpec.upto stageOverSpec)

/-- 'posternlaw08.StageUnpacks', WHERE WHAT IT READS IS OF BULK AT MOST 1048576: true; the input reads as it did. -/
def stageUnpacksUptoRow : OpenClaim := { program := "ytajmbafljncjcaa", sum := "1453b61dc56d96335d8fd18ab3ae58e7bb29e572ee538a6dfb3ea1e823b4b354", func := "postern/posternlaw08.StageUnpacks", spec := "stageUnpacks", unfollowed := true, recurses := true, plainKeys := false, apart := false, narrowed := true }
def StageUnpacksUptoSaid : Prop := stageUnpacksUptoRow.holds Try.pinned (OpenSpec.upto stageUnpacksSpec)

/-- 'posternlaw08.StageNil', WHERE WHAT IT READS IS OF BULK AT MOST 1048576: true; the input reads as it did. -/
def stageNilUptoRow : OpenClaim := { program := "ytajmbafljncjcaa", sum := "1453b61dc56d96335d8fd18ab3ae58e7bb29e572ee538a6dfb3ea1e823b4b354", func := "postern/posternlaw08.StageNil", spec := "stageNil", unfollowed := true, recurses := true, plainKeys := false, apart := false, narrowed := true }
def StageNilUptoSaid : Prop := stageNilUptoRow.holds Try.pinned (OpenSpec.upto stageNilSpec)

/-- 'posternlaw08.StageSwaps', WHERE WHAT IT READS IS OF BULK AT MOST 1048576: true; the input reads as it did. -/
def stageSwapsUptoRow : OpenClaim := { program := "ytajmbafljncjcaa", sum := "1453b61dc56d96335d8fd18ab3ae58e7bb29e572ee538a6dfb3ea1e823b4b354", func := "postern/posternlaw08.StageSwaps", spec := "stageSwaps", unfollowed := true, recurses := true, plainKeys := false, apart := false, narrowed := true }
def StageSwapsUptoSaid : Prop := stageSwapsUptoRow.holds Try.pinned (OpenSpec.upto stageSwapsSpec)

/-- 'posternlaw08.StagePacks', WHERE WHAT IT READS IS OF BULK AT MOST 1048576: true; the input reads as it did. -/
def stagePacksUptoRow : OpenClaim := { program := "ytajmbafljncjcaa", sum := "1453b61dc56d96335d8fd18ab3ae58e7bb29e572ee538a6dfb3ea1e823b4b354", func := "postern/posternlaw08.StagePacks", spec := "stagePacks", unfollowed := true, recurses := true, plainKeys := false, apart := false, narrowed := true }
def StagePacksUptoSaid : Prop := stagePacksUptoRow.holds Try.pinned (OpenSpec.upto stagePacksSpec)

/-- 'posternlaw08.StageWheres', WHERE WHAT IT READS IS OF BULK AT MOST 1048576: true; the input reads as it did. -/
def stageWheresUptoRow : OpenClaim := { program := "ytajmbafljncjcaa", sum := "1453b61dc56d96335d8fd18ab3ae58e7bb29e572ee538a6dfb3ea1e823b4b354", func := "postern/posternlaw08.StageWheres", spec := "stageWheres", unfollowed := true, recurses := true, plainKeys := false, apart := false, narrowed := true }
def StageWheresUptoSaid : Prop := stageWheresUptoRow.holds Try.pinned (OpenSpec.upto stageWheresSpec)

/-- 'posternlaw08.StageSums', WHERE WHAT IT READS IS OF BULK AT MOST 1048576: true; the input reads as it did. -/
def stageSumsUptoRow : OpenClaim := { program := "ytajmbafljncjcaa", sum := "1453b61dc56d96335d8fd18ab3ae58e7bb29e572ee538a6dfb3ea1e823b4b354", func := "postern/posternlaw08.StageSums", spec := "stageSums", unfollowed := true, recurses := true, plainKeys := false, apart := false, narrowed := true }
def StageSumsUptoSaid : Prop := stageSumsUptoRow.holds Try.pinned (OpenSpec.upto stageSumsSpec)

/-- 'posternlaw08.StageDiffers', WHERE WHAT IT READS IS OF BULK AT MOST 1048576: true; the input reads as it did. -/
def stageDiffersUptoRow : OpenClaim := { program := "ytajmbafljncjcaa", sum := "1453b61dc56d96335d8fd18ab3ae58e7bb29e572ee538a6dfb3ea1e823b4b354", func := "postern/posternlaw08.StageDiffers", spec := "stageDiffers", unfollowed := true, recurses := true, plainKeys := false, apart := false, narrowed := true }
def StageDiffersUptoSaid : Prop := stageDiffersUptoRow.holds Try.pinned (OpenSpec.upto stageDiffersSpec)

end Rows
end Go.Proofs.Ytajmbafljncjcaa
