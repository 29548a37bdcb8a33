/- whole, Blocks; Look of any code point. -/
import Derived.Test.YtajmbafljncjcaaBuild
namespace Go.Proofs.Ytajmbafljncjcaa.Stage
open Go.RowKit Go.Proofs.YtajmbafljncjcaaW.PrintWords Go.Proofs.YtajmbafljncjcaaW.PrintLast Go.Proofs.YtajmbafljncjcaaW.PrintMore Go.Proofs.Ytajmbafljncjcaa.Mp
set_option linter.unusedVariables false
set_option linter.unusedSimpArgs false

theorem nothing_calls (w : World) (x y : Value) : Calls Try.prog 93 #[x, y] w fun e w' => e = .returned (.bool false) ∧ w = w' := by
  go_enter Try.func93, Try.ntmps93
  go_wp2
  go_ret
  exact ⟨rfl, rfl⟩

theorem nothing_fill (w : World) : Fill w 93 #[] (fun _ => False) (fun _ _ => True) (blkOf (fun _ => 0)) where
  pr := fun k h => h.elim
  ent := call_enters Try.func93 (by kernel_rfl) (by kernel_rfl)
  start := trivial
  stable := fun _ _ _ _ _ => trivial
  len := fun i => blkOf_len _ _
  call := fun i hi W B _ _ hB _ => by
    refine (nothing_calls W _ _).mono ?_
    rintro e w' ⟨rfl, rfl⟩
    have hz : blkOf (fun _ => 0) i = zeros128 := zeros_blkOf (fun _ _ => rfl) i hi
    exact ⟨false, rfl, fun _ => hz, trivial, by rw [hz]; exact hB, Keeps.refl _ _⟩

def WholePost (w : World) (say : Nat → Nat) (e : Ending) (w' : World) : Prop :=
  Below w.heap.size w w' ∧ ∃ b, e = .returned (.pointer (some ⟨b, 0, none⟩)) ∧ TabSays w' b say

set_option maxRecDepth 100000 in
theorem whole_calls (w : World) (v : Option Addr) (say : Nat → Nat) (hh : Han w v say) : Calls Try.prog 62 #[.pointer v] w (WholePost w say) := by
  rcases hh with ⟨rfl, hz⟩ | ⟨b, rfl, ht⟩
  · have HM := Aside0.mk (made_calls (nothing_fill w) (fun i hi j => by
      rw [List.getD_eq_getElem?_getD]
      rcases Nat.lt_or_ge j 128 with hj | hj
      · rw [← List.getD_eq_getElem?_getD, blkOf_get _ _ _ hj]; exact Nat.zero_le _
      · rw [List.getElem?_eq_none (by rw [blkOf_len]; exact hj)]; exact Nat.zero_le _))
    go_enter Try.func62, Try.ntmps62
    go_wp2_with fail
    refine HM.out.mono ?_
    rintro e w1 ⟨b, g, c, g', c', rfl, ht, _, hk⟩
    have HF := Aside0.mk (show WholePost w say (.returned (.pointer (some ⟨b, 0, none⟩))) w1 from ⟨hk.below, b, rfl, g, c, g', c', by
      rw [show tabSay say = tabSay (fun _ => 0) from tabSay_congr hz]; exact ht⟩)
    clear ht hk
    go_wp2
    go_ret
    exact HF.out
  · have HT := Aside0.mk ht
    clear ht
    go_enter Try.func62, Try.ntmps62
    go_wp2
    go_ret
    exact ⟨Below.refl _ _, b, rfl, HT.out⟩

def BlocksPost (w : World) (say : Nat → Nat) (e : Ending) (w' : World) : Prop := Below w.heap.size w w' ∧ e = .returned (.int .i64 ((tabSay say).unlike.length : Nat))

set_option maxRecDepth 100000 in
theorem blocks_calls (w : World) (v : Option Addr) (say : Nat → Nat) (hh : Han w v say) : Calls Try.prog 38 #[.pointer v] w (BlocksPost w say) := by
  have HW := Aside0.mk (whole_calls w v say hh)
  clear hh
  go_enter Try.func38, Try.ntmps38
  go_wp2_with fail
  refine HW.out.mono ?_
  rintro e w1 ⟨hb, b, rfl, g, c, g', c', ht⟩
  have cu := ht.hu
  have HB := Aside0.mk hb
  clear hb ht
  generalize hm : (tabSay say).unlike.length = m at cu
  have HM := Aside0.mk hm
  clear hm
  go_wp2
  go_ret
  exact ⟨HB.out, by rw [HM.out]; rfl⟩

/-- Look, of whatever is asked. -/
def lookI (say : Nat → Nat) (p : Int) : Int := if 0 ≤ p ∧ p ≤ 1114111 then (say p.toNat : Nat) else 0
def LookPost (w : World) (say : Nat → Nat) (p : Int) (e : Ending) (w' : World) : Prop := e = .returned (.int .i64 (lookI say p)) ∧ ∃ n, w' = w.drewN n

theorem look_calls (w : World) (v : Option Addr) (say : Nat → Nat) (hh : Han w v say) (p : Int) : Calls Try.prog 17 #[.pointer v, .int .i32 p] w (LookPost w say p) := by
  rcases hh with ⟨rfl, hz⟩ | ⟨b, rfl, g, c, g', c', ht⟩
  · refine (look_nil p w).mono ?_
    rintro e w' ⟨rfl, rfl⟩
    refine ⟨?_, 0, rfl⟩
    unfold lookI
    split
    · rw [hz _ (by omega)]; rfl
    · rfl
  · by_cases hp : 0 ≤ p ∧ p ≤ 1114111
    · refine (look_in ht p hp.1 hp.2).mono ?_
      rintro e w' ⟨rfl, n, rfl⟩
      refine ⟨?_, n, rfl⟩
      unfold lookI
      rw [if_pos hp, tabSay_say _ _ (by omega)]
    · have hL : lookI say p = 0 := if_neg hp
      rcases Decidable.not_and_iff_or_not.1 hp with h1 | h1
      · have h1' : p < 0 := by omega
        have HL := Aside0.mk hL
        clear hp hL h1 ht
        go_enter Try.func17, Try.ntmps17
        go_wp2
        go_ret
        exact ⟨by rw [HL.out]; rfl, 0, rfl⟩
      · by_cases h0 : p < 0
        · have HL := Aside0.mk hL
          clear hp hL h1 ht
          go_enter Try.func17, Try.ntmps17
          go_wp2
          go_ret
          exact ⟨by rw [HL.out]; rfl, 0, rfl⟩
        · have h1' : 1114111 < p := by omega
          have HL := Aside0.mk hL
          clear hp hL h1 ht
          go_enter Try.func17, Try.ntmps17
          go_wp2
          go_ret
          exact ⟨by rw [HL.out]; rfl, 0, rfl⟩

end Go.Proofs.Ytajmbafljncjcaa.Stage
