/- even: has a block one number alone? -/
import Derived.Test.YtajmbafljncjcaaLook
import Derived.Test.YtajmbafljncjcaaCanon
import Derived.Handy
namespace Go.Proofs.Ytajmbafljncjcaa.Stage
open Go.RowKit Go.Proofs.YtajmbafljncjcaaW.PrintWords Go.Proofs.YtajmbafljncjcaaW.PrintLast Go.Proofs.YtajmbafljncjcaaW.PrintMore
set_option linter.unusedVariables false
set_option linter.unusedSimpArgs false

def evenB (say : Nat → Nat) (i : Nat) : Bool := flatB (blkOf say i)
theorem evenB_ok {say : Nat → Nat} {i : Nat} (h : evenB say i = true) (j : Nat) (hj : j < 128) : say (128 * i + j) = say (128 * i) := by
  unfold evenB flatB at h
  rw [List.all_eq_true] at h
  have h1 := h j (List.mem_range.2 hj)
  rw [blkOf_get _ _ _ hj, blkOf_get _ _ _ (by omega)] at h1
  simpa using h1
theorem evenB_zero {say : Nat → Nat} (h : ∀ p, p < 1114112 → say p = 0) {i : Nat} (hi : i < 8704) : evenB say i = true := by
  unfold evenB flatB
  rw [List.all_eq_true]
  intro j hj
  have hj := List.mem_range.1 hj
  rw [blkOf_get _ _ _ hj, blkOf_get _ _ _ (by omega), h _ (by omega), h _ (by omega)]
  rfl

theorem even_nil (w : World) (i : Int) : Calls Try.prog 70 #[.pointer none, .int .i64 i] w fun e w' => e = .returned (.bool true) ∧ ∃ n, w' = w.drewN n := by
  go_enter Try.func70, Try.ntmps70
  go_wp2
  go_quiet (fail)
  go_wp2
  go_ret
  exact ⟨rfl, _, rfl⟩

set_option maxRecDepth 100000 in
set_option maxHeartbeats 400000 in
theorem even_in {w : World} {b g c g' c' : Nat} {t : Tab} (h : TabIn w b g c g' c' t) (i : Nat) (hi : i < 8704) :
    Calls Try.prog 70 #[.pointer (some ⟨b, 0, none⟩), .int .i64 (i : Int)] w fun e w' => e = .returned (.bool (t.plain.getD (t.which.getD i 0) false)) ∧ ∃ n, w' = w.drewN n := by
  have hx := h.idx i hi
  have hcw := h.hw i hi
  generalize t.which.getD i 0 = x at hx hcw
  have hcu := h.hp
  have hcb := h.hpb x hx
  have hpl := h.plen
  generalize t.plain.getD x false = y at hcb
  generalize t.unlike.length = m at hx hcu
  have l1' : (i : Int) < 8704 := by omega
  have hx' : (x : Int) < (m : Int) := by omega
  clear h hpl
  go_enter Try.func70, Try.ntmps70
  go_wp2
  go_quiet (fail)
  go_wp2
  go_ret
  exact ⟨rfl, _, rfl⟩

theorem tabOf_plain (bs : List (List Nat)) : (tabOf bs).plain = (tabOf bs).unlike.map flatB := rfl
theorem tabSay_plain (say : Nat → Nat) : (tabSay say).plain = (tabSay say).unlike.map flatB := by unfold tabSay; exact tabOf_plain _
theorem plain_at (t : Tab) (hp : t.plain = t.unlike.map flatB) (x : Nat) (hx : x < t.unlike.length) : t.plain.getD x false = flatB (t.unlike.getD x []) := by
  rw [hp, List.getD_eq_getElem?_getD, List.getD_eq_getElem?_getD, List.getElem?_map, List.getElem?_eq_getElem hx]
  rfl
theorem even_calls (w : World) (v : Option Addr) (say : Nat → Nat) (hh : Han w v say) (i : Nat) (hi : i < 8704) : Calls Try.prog 70 #[.pointer v, .int .i64 (i : Int)] w fun e w' => e = .returned (.bool (evenB say i)) ∧ ∃ n, w' = w.drewN n := by
  rcases hh with ⟨rfl, hz⟩ | ⟨b, rfl, g, c, g', c', ht⟩
  · rw [evenB_zero hz hi]
    exact even_nil w i
  · have h := even_in ht i hi
    have e : (tabSay say).plain.getD ((tabSay say).which.getD i 0) false = evenB say i := (plain_at (tabSay say) (tabSay_plain say) _ (ht.idx i hi)).trans (congrArg flatB (tabSay_blk say i hi))
    rw [e] at h
    exact h

end Go.Proofs.Ytajmbafljncjcaa.Stage
