/- two: the document's number of two bytes. -/
import Derived.Test.YtajmbafljncjcaaUnpackA
namespace Go.Proofs.Ytajmbafljncjcaa.Stage
open Go.RowKit Go.Proofs.YtajmbafljncjcaaW.PrintWords Go.Proofs.YtajmbafljncjcaaW.PrintLast Go.Proofs.YtajmbafljncjcaaW.PrintMore Go.Proofs.Ytajmbafljncjcaa.Mp
set_option linter.unusedVariables false
set_option linter.unusedSimpArgs false

set_option maxRecDepth 100000 in
set_option maxHeartbeats 800000 in
theorem two_calls (w : World) (s : ByteArray) (i : Nat) (a : Int) (ha : a = 2 * (i : Int)) (hs : s.size ≤ 9223372036854775806) (hi : 2 * i + 1 < s.size) :
    Calls Try.prog 66 #[.string s, .int .i64 a] w fun e w' => e = .returned (.int .i64 (wd s i : Nat)) ∧ Below w.heap.size w w' := by
  subst ha
  have h1 : 2 * (i : Int) < (s.size : Int) := by omega
  have h2 : 2 * (i : Int) + 1 < (s.size : Int) := by omega
  have h3 : (0 : Int) ≤ 2 * (i : Int) := by omega
  have h4 : (0 : Int) ≤ 2 * (i : Int) + 1 := by omega
  have hg1 := (s[2 * i]'(by omega)).toNat_lt
  have hg2 := (s[2 * i + 1]'hi).toNat_lt
  go_enter Try.func66, Try.ntmps66
  go_wp2
  go_region
  go_wp2
  go_ret
  refine ⟨?_, pw_below_drewN (Below.refl _ _) _⟩
  rw [wd_eq s i hi]
  rfl

end Go.Proofs.Ytajmbafljncjcaa.Stage
