/- What the law's own first call asks: a table of one row has two unlike blocks. No program here. -/
import Derived.Test.YtajmbafljncjcaaTil
import Derived.Test.YtajmbafljncjcaaOver
namespace Go.Proofs.Ytajmbafljncjcaa.Stage
set_option linter.unusedVariables false
set_option linter.unusedSimpArgs false

theorem two_len {α : Type} [DecidableEq α] {l : List α} {a b : α} (hn : l.Nodup) (hab : a ≠ b) (h : ∀ x, x ∈ l ↔ x = a ∨ x = b) : l.length = 2 := by
  have h1 : l.Perm [a, b] := by
    rw [List.perm_ext_iff_of_nodup hn (by simp [hab])]
    intro x
    rw [h x]
    simp
  simpa using h1.length_eq

def saidA : Nat → Nat := overSay [(65, 90, 1)] (fun _ => 0)
theorem saidA_eq (p : Nat) : saidA p = if 65 ≤ p ∧ p ≤ 90 then 1 else 0 := by
  unfold saidA overSay
  rw [sayR_cons]
  split
  · rfl
  · rfl
theorem tabOf_unlike (bs : List (List Nat)) : (tabOf bs).unlike = (canonB bs).2 := rfl
theorem tabSay_unlike (say : Nat → Nat) : (tabSay say).unlike = (canonB (blksOf say)).2 := by unfold tabSay; exact tabOf_unlike _
theorem awake_two : (tabSay saidA).unlike.length = 2 := by
  have hc := canonB_ok (blksOf saidA)
  have hne : blkOf saidA 0 ≠ blkOf saidA 1 := fun h => by
    have := congrArg (fun l => l.getD 65 0) h
    simp only [blkOf_get _ _ _ (show 65 < 128 by decide), saidA_eq] at this
    simp at this
  rw [tabSay_unlike]
  generalize canonB (blksOf saidA) = st at hc
  refine two_len hc.nodup hne fun x => ?_
  have hm := hc.mem x
  rw [blksOf, List.mem_map] at hm
  refine hm.trans ⟨fun h => ?_, fun h => ?_⟩
  · obtain ⟨i, hi, rfl⟩ := h
    rcases Nat.eq_zero_or_pos i with rfl | h0
    · exact .inl rfl
    · refine .inr ?_
      simp only [blkOf]
      refine List.map_congr_left fun j hj => ?_
      rw [saidA_eq, saidA_eq, if_neg (by omega), if_neg (by omega)]
  · rcases h with rfl | rfl
    · exact ⟨0, List.mem_range.2 (by omega), rfl⟩
    · exact ⟨1, List.mem_range.2 (by omega), rfl⟩

end Go.Proofs.Ytajmbafljncjcaa.Stage
