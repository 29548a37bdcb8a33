/- stage.Where's function values, in the stage seat. -/
import Derived.Test.YtajmbafljncjcaaSpH
import Derived.Test.YtajmbafljncjcaaSwapA
namespace Go.Proofs.Ytajmbafljncjcaa.Stage
open Go.RowKit Go.Proofs.YtajmbafljncjcaaW.PrintWords Go.Proofs.YtajmbafljncjcaaW.PrintLast Go.Proofs.YtajmbafljncjcaaW.PrintMore Go.Proofs.Ytajmbafljncjcaa.Mp
set_option linter.unusedVariables false
set_option linter.unusedSimpArgs false

theorem whole_has {l : List (Int × Int)} (hs : isSet l = true) {f t : Int} (h : wholeS l f t = true) {p : Int} (h1 : f ≤ p) (h2 : p ≤ t) : hasS p l = hasS f l := by
  obtain ⟨k1, k2, k3⟩ := idxS_spec f l
  have none_ : (∀ i, i < l.length → f ≤ (l.getD i (0, 0)).2 → t < (l.getD i (0, 0)).1) → hasS p l = hasS f l := fun hn => by
    have e : ∀ q, f ≤ q → q ≤ t → hasS q l = false := fun q q1 q2 => by
      rw [Bool.eq_false_iff]
      intro hq
      obtain ⟨i, i1, i2, i3⟩ := (hasS_iff hs q).1 hq
      have := hn i i1 (by omega)
      omega
    rw [e p h1 h2, e f (Int.le_refl _) (by omega)]
  unfold wholeS at h
  rw [Bool.or_eq_true, Bool.or_eq_true, Bool.and_eq_true, decide_eq_true_eq, decide_eq_true_eq, decide_eq_true_eq, decide_eq_true_eq] at h
  rcases h with h | h | ⟨h3, h4⟩
  · exact none_ (fun i hi hf => by have := k2 i (by omega); omega)
  · refine none_ (fun i hi hf => ?_)
    have hge : idxS f l ≤ i := Nat.le_of_not_lt fun hlt => by have := k2 i hlt; omega
    rcases Nat.lt_or_eq_of_le hge with hq | hq
    · have g1 := isSet_get hs hi
      have g2 := g1.2 _ hq
      have g3 := (isSet_get hs (show idxS f l < l.length by omega)).1
      omega
    · rw [← hq]; omega
  · by_cases hlt : idxS f l < l.length
    · have e : ∀ q, f ≤ q → q ≤ t → hasS q l = true := fun q q1 q2 => (hasS_iff hs q).2 ⟨_, hlt, by omega, by omega⟩
      rw [e p h1 h2, e f (Int.le_refl _) (by omega)]
    · exact none_ (fun i hi hf => by have := k2 i (by omega); omega)
def whereSay (l : List (Int × Int)) (sa sb : Nat → Nat) (p : Nat) : Nat := if hasS (p : Int) l = true then sa p else sb p
def whereEv (l : List (Int × Int)) (sa sb : Nat → Nat) (i : Nat) : Bool := (evenB sa i && evenB sb i) && wholeS l (128 * (i : Int)) (128 * (i : Int) + 127)
set_option maxRecDepth 100000 in
theorem in_calls (W : World) (Bx : Nat) (A : Option Addr) (c : Nat) (l : List (Int × Int)) (p : Int) (hC : SpI W A l) (hs : isSet l = true) (hX : W.cell? ⟨Bx, 0, none⟩ = some (.slice A l.length c)) :
    Calls Try.prog 72 #[.int .i32 p, .pointer (some ⟨Bx, 0, none⟩)] W fun e w' => e = .returned (.bool (hasS p l)) ∧ Below W.heap.size W w' := by
  have HH := Aside0.mk (has_calls W A c l p hC hs)
  clear hC hs
  go_enter Try.func72, Try.ntmps72
  go_wp2_with fail
  refine HH.out.mono ?_
  rintro e w1 ⟨rfl, hb⟩
  go_wp2_with fail
  go_ret
  exact ⟨rfl, hb⟩
set_option maxRecDepth 100000 in
theorem both1_calls (W : World) (Ba Bb : Nat) (va vb : Option Addr) (sa sb : Nat → Nat) (ha : Han W va sa) (hb : Han W vb sb) (i : Nat) (hi : i < 8704) (hA : W.cell? ⟨Ba, 0, none⟩ = some (.pointer va)) (hB : W.cell? ⟨Bb, 0, none⟩ = some (.pointer vb)) :
    Calls Try.prog 97 #[.int .i64 (i : Int), .pointer (some ⟨Ba, 0, none⟩), .pointer (some ⟨Bb, 0, none⟩)] W fun e w' => e = .returned (.bool (evenB sa i && evenB sb i)) ∧ Below W.heap.size W w' := by
  have HE := Aside0.mk (even_calls W va sa ha i hi)
  have HG := Aside0.mk (fun (W1 : World) (h : Below W.heap.size W W1) => even_calls W1 vb sb (hb.below h) i hi)
  clear ha hb
  cases e1 : evenB sa i with
  | false =>
    rw [e1] at HE
    go_enter Try.func97, Try.ntmps97
    go_wp2_with fail
    refine HE.out.mono ?_
    rintro e w1 ⟨rfl, k, rfl⟩
    go_wp2_with fail
    go_ret
    exact ⟨rfl, pw_below_drewN (Below.refl _ _) _⟩
  | true =>
    rw [e1] at HE
    go_enter Try.func97, Try.ntmps97
    go_wp2_with fail
    refine HE.out.mono ?_
    rintro e w1 ⟨rfl, k, rfl⟩
    have hbd : Below W.heap.size W (W.drewN k) := pw_below_drewN (Below.refl _ _) _
    have HG1 := Aside0.mk (HG.out _ hbd)
    go_wp2_with fail
    refine HG1.out.mono ?_
    rintro e w2 ⟨rfl, k2, rfl⟩
    go_wp2_with fail
    go_ret
    exact ⟨by simp, pw_below_drewN (Below.refl _ _) _⟩
theorem lookI_nat (say : Nat → Nat) {p : Nat} (hp : p < 1114112) : lookI say (p : Int) = ((say p : Nat) : Int) := by unfold lookI; rw [if_pos (by omega), Int.toNat_natCast]
set_option maxRecDepth 100000 in
theorem where2_calls (W : World) (Bi Bx Ba Bb : Nat) (A : Option Addr) (c : Nat) (l : List (Int × Int)) (hC : SpI W A l) (hs : isSet l = true) (va vb : Option Addr) (sa sb : Nat → Nat) (ha : Han W va sa) (hb : Han W vb sb) (p : Nat) (hp : p < 1114112)
    (hI : W.cell? ⟨Bi, 0, none⟩ = some (.func (.func 72) #[] #[.pointer (some ⟨Bx, 0, none⟩)])) (hX : W.cell? ⟨Bx, 0, none⟩ = some (.slice A l.length c)) (hA : Blk W Ba [.pointer va] 23) (hB : Blk W Bb [.pointer vb] 23) :
    Calls Try.prog 75 #[.int .i32 (p : Int), .pointer (some ⟨Bi, 0, none⟩), .pointer (some ⟨Ba, 0, none⟩), .pointer (some ⟨Bb, 0, none⟩)] W fun e w' => e = .returned (.int .i64 (whereSay l sa sb p : Nat)) ∧ Below W.heap.size W w' := by
  have HH := Aside0.mk (in_calls W Bx A c l (p : Int) hC hs hX)
  have HLA := Aside0.mk (fun (W1 : World) (h : Below W.heap.size W W1) => (show Calls Try.prog 17 #[.pointer va, .int .i32 (p : Int)] W1 (fun e w' => e = .returned (.int .i64 ((sa p : Nat) : Int)) ∧ ∃ n, w' = W1.drewN n) from by
    have k := look_calls W1 va sa (ha.below h) (p : Int)
    unfold LookPost at k
    rw [lookI_nat sa hp] at k
    exact k))
  have HLB := Aside0.mk (fun (W1 : World) (h : Below W.heap.size W W1) => (show Calls Try.prog 17 #[.pointer vb, .int .i32 (p : Int)] W1 (fun e w' => e = .returned (.int .i64 ((sb p : Nat) : Int)) ∧ ∃ n, w' = W1.drewN n) from by
    have k := look_calls W1 vb sb (hb.below h) (p : Int)
    unfold LookPost at k
    rw [lookI_nat sb hp] at k
    exact k))
  have ent := call_enters (f := 72) Try.func72 (by kernel_rfl) (by kernel_rfl)
  have HA := Aside0.mk hA
  have HB := Aside0.mk hB
  clear hC hs ha hb hX hA hB
  cases e1 : hasS (p : Int) l with
  | true =>
    rw [show whereSay l sa sb p = sa p from if_pos e1]
    rw [e1] at HH
    generalize sa p = x at *
    go_enter Try.func75, Try.ntmps75
    go_wp2_with fail
    refine HH.out.mono ?_
    rintro e w1 ⟨rfl, hb1⟩
    have cA := (show Blk w1 Ba [.pointer va] 23 from (hb1.block Ba HA.out.lt).trans HA.out).cell 0
    rw [List.getElem?_cons_zero] at cA
    have HL1 := Aside0.mk (HLA.out w1 hb1)
    have HB1 := Aside0.mk hb1
    clear hb1 HLA HLB
    go_wp2_with fail
    refine HL1.out.mono ?_
    rintro e w2 ⟨rfl, k, rfl⟩
    go_wp2_with fail
    go_ret
    exact ⟨rfl, HB1.out.trans (pw_below_drewN (Below.refl _ _) _)⟩
  | false =>
    rw [show whereSay l sa sb p = sb p from if_neg (by rw [e1]; decide)]
    rw [e1] at HH
    generalize sb p = x at *
    go_enter Try.func75, Try.ntmps75
    go_wp2_with fail
    refine HH.out.mono ?_
    rintro e w1 ⟨rfl, hb1⟩
    have cB := (show Blk w1 Bb [.pointer vb] 23 from (hb1.block Bb HB.out.lt).trans HB.out).cell 0
    rw [List.getElem?_cons_zero] at cB
    have HL1 := Aside0.mk (HLB.out w1 hb1)
    have HB1 := Aside0.mk hb1
    clear hb1 HLA HLB
    go_wp2_with fail
    refine HL1.out.mono ?_
    rintro e w2 ⟨rfl, k, rfl⟩
    go_wp2_with fail
    go_ret
    exact ⟨rfl, HB1.out.trans (pw_below_drewN (Below.refl _ _) _)⟩
set_option maxRecDepth 100000 in
theorem where3_calls (W : World) (Bo Bx Ba Bb : Nat) (A : Option Addr) (c : Nat) (l : List (Int × Int)) (hC : SpI W A l) (hs : isSet l = true) (va vb : Option Addr) (sa sb : Nat → Nat) (ha : Han W va sa) (hb : Han W vb sb) (i : Nat) (hi : i < 8704)
    (hO : W.cell? ⟨Bo, 0, none⟩ = some (.func (.func 97) #[] #[.pointer (some ⟨Ba, 0, none⟩), .pointer (some ⟨Bb, 0, none⟩)])) (hX : Blk W Bx [.slice A l.length c] 42) (hA : W.cell? ⟨Ba, 0, none⟩ = some (.pointer va)) (hB : W.cell? ⟨Bb, 0, none⟩ = some (.pointer vb)) :
    Calls Try.prog 76 #[.int .i64 (i : Int), .pointer (some ⟨Bo, 0, none⟩), .pointer (some ⟨Bx, 0, none⟩)] W fun e w' => e = .returned (.bool (whereEv l sa sb i)) ∧ Below W.heap.size W w' := by
  have HH := Aside0.mk (both1_calls W Ba Bb va vb sa sb ha hb i hi hA hB)
  have HWH := Aside0.mk (fun (W1 : World) (h : Below W.heap.size W W1) => (show Calls Try.prog 77 #[.slice A l.length c, .int .i32 ((i : Int) * 128), .int .i32 ((i : Int) * 128 + 128 - 1)] W1 (fun e w' => e = .returned (.bool (wholeS l (128 * (i : Int)) (128 * (i : Int) + 127))) ∧ Below W1.heap.size W1 w') from by
    have k := wholeS_calls W1 A c l (128 * (i : Int)) (128 * (i : Int) + 127) (hC.below h) hs
    rw [show (128 * (i : Int) + 127) = (i : Int) * 128 + 128 - 1 by omega, show 128 * (i : Int) = (i : Int) * 128 by omega] at k
    rw [show (128 * (i : Int) + 127) = (i : Int) * 128 + 128 - 1 by omega, show 128 * (i : Int) = (i : Int) * 128 by omega]
    exact k))
  have ent := call_enters (f := 97) Try.func97 (by kernel_rfl) (by kernel_rfl)
  have HX := Aside0.mk hX
  clear hC hs ha hb hX
  cases e1 : (evenB sa i && evenB sb i) with
  | false =>
    rw [show whereEv l sa sb i = false from by unfold whereEv; rw [e1]; rfl]
    rw [e1] at HH
    go_enter Try.func76, Try.ntmps76
    go_wp2_with fail
    refine HH.out.mono ?_
    rintro e w5 ⟨rfl, hb1⟩
    go_wp2_with fail
    go_ret
    exact ⟨rfl, hb1⟩
  | true =>
    rw [show whereEv l sa sb i = wholeS l (128 * (i : Int)) (128 * (i : Int) + 127) from by unfold whereEv; rw [e1]; rfl]
    rw [e1] at HH
    generalize wholeS l (128 * (i : Int)) (128 * (i : Int) + 127) = x at *
    go_enter Try.func76, Try.ntmps76
    go_wp2_with fail
    refine HH.out.mono ?_
    rintro e w5 ⟨rfl, hb1⟩
    have cX := (show Blk w5 Bx [.slice A l.length c] 42 from (hb1.block Bx HX.out.lt).trans HX.out).cell 0
    rw [List.getElem?_cons_zero] at cX
    have HW1 := Aside0.mk (HWH.out w5 hb1)
    have HB1 := Aside0.mk hb1
    clear hb1 HWH
    go_wp2_with fail
    refine HW1.out.mono ?_
    rintro e w6 ⟨rfl, hb2⟩
    go_wp2_with fail
    go_ret
    exact ⟨by first | rfl | (cases x <;> rfl), HB1.out.trans (hb2.mono HB1.out.size)⟩

end Go.Proofs.Ytajmbafljncjcaa.Stage
