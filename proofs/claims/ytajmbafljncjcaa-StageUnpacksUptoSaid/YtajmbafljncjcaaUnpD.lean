/- The document's Unpack, in plain: rows that are added one by one; what is packed, by the document's tests. -/
import Derived.Test.YtajmbafljncjcaaPackInv
import Derived.Test.YtajmbafljncjcaaSwapA
import Derived.Test.YtajmbafljncjcaaTwo
namespace Go.Proofs.Ytajmbafljncjcaa.Stage
open Go.RowKit Go.Proofs.YtajmbafljncjcaaW.PrintWords Go.Proofs.YtajmbafljncjcaaW.PrintLast Go.Proofs.YtajmbafljncjcaaW.PrintMore Go.Proofs.Ytajmbafljncjcaa.Mp
set_option linter.unusedVariables false
set_option linter.unusedSimpArgs false

def addsTo (say : Nat → Nat) : Nat → List (Nat × Nat × Nat)
  | 0 => []
  | p + 1 => addN (addsTo say p) (p, p, say p)
theorem addsTo_til (say : Nat → Nat) : ∀ p, Til say p 0 (addsTo say p)
  | 0 => rfl
  | p + 1 => Til.add (x := (p, p, say p)) rfl (Nat.le_refl _) (fun q h1 h2 => by have h1' : p ≤ q := h1; have h2' : q ≤ p := h2; rw [show q = p by omega]) (addsTo_til say p)
theorem addsTo_len (say : Nat → Nat) (p : Nat) : (addsTo say p).length ≤ p := by
  have := (addsTo_til say p).length
  omega
theorem addsTo_least {say : Nat → Nat} (hs : ∀ p, p < 1114112 → say p ≤ 65535) {N : Nat} (hN : N = 1114112) : RiseN 0 (addsTo say N) ∧ RiseN 0 (nz (runsN [] 0 (addsTo say N))) ∧ (nz (runsN [] 0 (addsTo say N))).length ≤ 1114112 ∧ (addsTo say N).length ≤ 1114112 ∧ ∀ p, p < 1114112 → sayQ (nz (runsN [] 0 (addsTo say N))) p = say p := by
  have ht := addsTo_til say N
  revert ht
  generalize addsTo say N = l
  intro ht
  have h := ht.cov_map (fun n => n)
  have e : l.map (fun x => (x.1, x.2.1, x.2.2)) = l := by simp
  rw [e, hN] at h
  exact Cov.least hs h

theorem packT_size2 (say : Nat → Nat) : (strOfNums (packT (tabSay say))).size = 17410 + 256 * (tabSay say).unlike.length := by
  obtain ⟨a1, a2, a3, _⟩ := tabSay_ok say
  have : (strOfNums (packT (tabSay say))).size = (packT (tabSay say)).length := by simp [strOfNums, ByteArray.size]
  rw [this]
  generalize tabSay say = t at *
  unfold packT
  rw [List.length_append, List.length_append, flat_two, twoB_len, flat_blocks_len _ a2, a1]
theorem packL (t : Tab) : packT t = ((t.unlike.length / 256 : Nat) : Int) :: ((t.unlike.length % 256 : Nat) : Int) :: (t.which.flatMap twoB ++ t.unlike.flatMap fun b => b.flatMap twoB) := by
  unfold packT
  rw [List.append_assoc]
  rfl
theorem wd_cons (n : Nat) (hn : n < 65536) (l : List Int) : wd (strOfNums (((n / 256 : Nat) : Int) :: ((n % 256 : Nat) : Int) :: l)) 0 = n := by
  unfold wd
  rw [str_get _ _ (by rw [List.length_cons]; omega), str_get _ _ (by rw [List.length_cons, List.length_cons]; omega), show 2 * 0 = 0 from rfl, show 0 + 1 = 1 from rfl, List.getD_cons_zero, List.getD_cons_succ, List.getD_cons_zero, Int.toNat_natCast, Int.toNat_natCast, UInt8.toNat_ofNat', UInt8.toNat_ofNat']
  omega
theorem packT_head' (t : Tab) (hL : t.unlike.length < 65536) : wd (strOfNums (packT t)) 0 = t.unlike.length := by
  rw [packL]
  exact wd_cons _ hL _
theorem packT_head (say : Nat → Nat) : wd (strOfNums (packT (tabSay say))) 0 = (tabSay say).unlike.length :=
  packT_head' _ (by obtain ⟨_, _, a3, _⟩ := tabSay_ok say; omega)
/-- What is packed, by the document's tests. -/
theorem packed_tests (s : ByteArray) : Packed s ↔ (s.size = 17410 + 256 * wd s 0 ∧ (∀ i, i < 8704 → wd s (1 + i) < wd s 0) ∧ strOfNums (packT (tabSay (wdSay s))) = s) := by
  refine ⟨fun h => ?_, fun h => ⟨⟨_, h.1, h.2.1⟩, h.2.2⟩⟩
  obtain ⟨⟨n, h1, h2⟩, h3⟩ := h
  have e1 := packT_size2 (wdSay s)
  have e2 := packT_head (wdSay s)
  rw [h3] at e1 e2
  obtain rfl : n = wd s 0 := by omega
  exact ⟨h1, h2, h3⟩

end Go.Proofs.Ytajmbafljncjcaa.Stage
