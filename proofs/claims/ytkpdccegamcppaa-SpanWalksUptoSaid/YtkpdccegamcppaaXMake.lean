/- span.Make: slices.IndexFunc under its closure, and what it comes to. -/
import Derived.Test.YtkpdccegamcppaaXJoin
namespace Go.Proofs.Ytkpdccegamcppaa.PSpan
open Go.RowKit Go.Proofs.YtkpdccegamcppaaW.PrintWords Go.Proofs.YtkpdccegamcppaaW.PrintLast Go.Proofs.YtkpdccegamcppaaW.PrintMore Go.Proofs.Ytkpdccegamcppaa.SpanP
set_option linter.unusedVariables false
set_option linter.unusedSimpArgs false

/-- The place of the first span that may not be; none: -1. -/
def badP : List S50 → Int
  | [] => -1
  | x :: l => if may (pr x) then (if badP l < 0 then -1 else badP l + 1) else 0
theorem badP_ge : ∀ l : List S50, -1 ≤ badP l
  | [] => by simp [badP]
  | x :: l => by
    have := badP_ge l
    unfold badP
    split
    · split <;> omega
    · omega
theorem badP_none : ∀ l : List S50, badP l < 0 ↔ mayL l = true
  | [] => by simp [badP, mayL]
  | x :: l => by
    have ih := badP_none l
    have ge := badP_ge l
    unfold badP
    have e : mayL (x :: l) = (decide (may (pr x)) && mayL l) := rfl
    rw [e]
    by_cases h : may (pr x)
    · rw [if_pos h, decide_eq_true h, Bool.true_and, ← ih]
      split <;> omega
    · rw [if_neg h, decide_eq_false h]
      simp
/-- Found at i: what lies ahead may be. -/
theorem badP_at : ∀ (l : List S50) (i : Nat), i < l.length → (∀ t, t < i → may (pr (rd_T50 l (t : Nat)))) → ¬ may (pr (rd_T50 l (i : Nat))) → badP l = i
  | [], i, h, _, _ => by simp at h
  | x :: l, 0, h, _, h2 => by
    unfold badP
    rw [if_neg (by simpa [rd_T50] using h2)]
    rfl
  | x :: l, i + 1, h, h1, h2 => by
    have k0 : may (pr x) := by simpa [rd_T50] using h1 0 (by omega)
    have k : badP l = i := badP_at l i (by simp only [List.length_cons] at h; omega) (fun t ht => by simpa [rd_T50] using h1 (t + 1) (by omega)) (by simpa [rd_T50] using h2)
    unfold badP
    rw [if_pos k0, k, if_neg (by omega)]
    omega
theorem mayL_at : ∀ (l : List S50), (∀ t, t < l.length → may (pr (rd_T50 l (t : Nat)))) → mayL l = true := fun l h => by
  refine List.all_eq_true.2 fun x hx => ?_
  obtain ⟨i, hi, rfl⟩ := List.getElem_of_mem hx
  have := h i hi
  unfold rd_T50 at this
  rw [Int.toNat_natCast, List.getD_eq_getElem?_getD, List.getElem?_eq_getElem hi] at this
  exact decide_eq_true this
theorem make1_f (a b : Int) : span_Make_1.f a b = some (!decide (may (a, b))) := by
  unfold span_Make_1.f span_may.f may
  by_cases h1 : 0 ≤ a
  · rw [if_pos h1]
    by_cases h2 : a ≤ b
    · rw [if_pos h2]
      simp [h1, h2]
    · rw [if_neg h2]
      simp [h2]
  · rw [if_neg h1]
    simp [h1]

def AllMay (l : List S50) (i : Nat) : Prop := ∀ t, t < i → may (pr (rd_T50 l (t : Nat)))
def IdxPost (w : World) (n : Int) (e : Ending) (w' : World) : Prop := e = .returned (.int .i64 n) ∧ Below w.heap.size w w'
set_option maxRecDepth 100000 in
set_option maxHeartbeats 1600000 in
theorem index_calls (w : World) (A : Option Addr) (c : Nat) (l : List S50) (hC : Kd.C k50 w A l.length l) (hl : l.length ≤ 16777216) :
    Calls Try.prog 41 #[.slice A l.length c, .func (.func 42) #[] #[]] w (IdxPost w (badP l)) := by
  have HC := Aside0.mk hC
  have HI := Aside0.mk (badP_at l)
  have HN := Aside0.mk (show AllMay l l.length → badP l = -1 from fun h => by have := (badP_none l).2 (mayL_at l h); have := badP_ge l; omega)
  have ent := call_enters (f := 42) Try.func42 (by kernel_rfl) (by kernel_rfl)
  clear hC
  generalize hq : badP l = q at *
  clear hq
  go_enter Try.func41, Try.ntmps41
  go_wp2_with fail
  go_loopg [5, 8] (l.length + 1) (fun k v5 v8 wr => ∃ i : Nat, i ≤ l.length ∧ l.length - i < k ∧ v8 = .int .i64 (i : Int) ∧ Aside0 (AllMay l i) ∧ Aside0 (Below w.heap.size w wr))
  case atStart => exact ⟨0, by omega, by omega, rfl, ⟨fun t ht => absurd ht (Nat.not_lt_zero t)⟩, ⟨Below.refl _ _⟩⟩
  case round =>
    obtain ⟨i, hi, hk, rfl, hA, hB⟩ := hrel
    by_cases hlt : i < l.length
    · have hlt' : (i : Int) < (l.length : Int) := by omega
      have hn := Kd.C_len HC.out
      obtain ⟨ad, rfl, k0, k1⟩ := at_T50 (Kd.C_below HC.out hB.out) (i : Int) (by omega) (by omega)
      rw [Int.toNat_natCast] at k0 k1
      have HII := Aside0.mk (fun h => HI.out i hlt hA.out h)
      have HAN := Aside0.mk (show may (pr (rd_T50 l (i : Nat))) → AllMay l (i + 1) from fun h t ht => by
        by_cases e : t = i
        · rw [e]; exact h
        · exact hA.out t (by omega))
      clear hn
      have hp : pr (rd_T50 l (i : Int)) = ((rd_T50 l (i : Int)).f0, (rd_T50 l (i : Int)).f1) := rfl
      rw [hp] at HII HAN
      clear hp
      generalize (rd_T50 l (i : Int)).f1 = x1 at k1 HII HAN
      generalize (rd_T50 l (i : Int)).f0 = x0 at k0 HII HAN
      have HF := Aside0.mk (fun (W : World) => span_Make_1.calls x0 x1 _ W (make1_f x0 x1))
      by_cases hc : may (x0, x1)
      · rw [decide_eq_true hc] at HF
        have HA2 := Aside0.mk (HAN.out hc)
        clear HAN HII hc
        go_wp2_with fail
        refine (HF.out _).mono ?_
        rintro e w2 ⟨rfl, hb⟩
        have HB2 := Aside0.mk (hB.out.trans (hb.mono hB.out.size))
        clear hb
        go_wp2_with fail
        go_roundg (l.length - i)
        case measure => omega
        case rel => exact ⟨i + 1, by omega, by omega, by go_num, HA2, HB2⟩
      · rw [decide_eq_false hc] at HF
        have HQ := Aside0.mk (HII.out hc)
        clear HAN HII hc
        go_wp2_with fail
        refine (HF.out _).mono ?_
        rintro e w2 ⟨rfl, hb⟩
        have HB2 := Aside0.mk (hB.out.trans (hb.mono hB.out.size))
        clear hb
        go_wp2_with fail
        go_ret
        exact ⟨by rw [HQ.out]; rfl, HB2.out⟩
    · obtain rfl : i = l.length := by omega
      have hlt' : ¬ (l.length : Int) < (l.length : Int) := by omega
      have HQ := Aside0.mk (HN.out hA.out)
      go_wp2_with fail
      go_ret
      exact ⟨by rw [HQ.out]; rfl, hB.out⟩

def span_Make.f (l0 : List S50) : Option (List S50 × Int × Int) :=
  if l0.length > 16777216 then none else if l0.length > 65536 then some ([], 65536, 71) else if badP l0 < 0 then (span_joined.f l0).bind fun r => some (r, 0, 0) else some ([], badP l0, 70)
set_option maxRecDepth 100000 in
set_option maxHeartbeats 1600000 in
theorem span_Make.calls (A0 : Option Addr) (c0 : Nat) (l0 : List S50) (r1 : List S50) (r2 r3 : Int) (w : World) (hr0 : Kd.C k50 w A0 l0.length l0) (hc0 : l0.length ≤ c0) (h : span_Make.f l0 = some (r1, r2, r3)) :
    Calls Try.prog 12 #[.slice A0 l0.length c0] w fun e w' => ∃ v0_ : Value, e = .returned (.tuple #[v0_, .int .i64 r2, .int .i64 r3]) ∧ Kd.R k50 50 w' w.heap.size (fun _ => True) v0_ r1 ∧ Below w.heap.size w w' := by
  unfold span_Make.f at h
  by_cases hl : l0.length > 16777216
  · rw [if_pos hl] at h; cases h
  · rw [if_neg hl] at h
    by_cases h1 : l0.length > 65536
    · rw [if_pos h1] at h
      have h1' : (l0.length : Int) > 65536 := by omega
      simp only [Option.some.injEq, Prod.mk.injEq] at h
      obtain ⟨rfl, rfl, rfl⟩ := h
      go_enter Try.func12, Try.ntmps12
      go_wp2_with fail
      go_ret3
      exact ⟨_, rfl, Kd.R_nil _ _ _ _ _, Below.refl _ _⟩
    · rw [if_neg h1] at h
      have h1' : ¬ (l0.length : Int) > 65536 := by omega
      have HIX := Aside0.mk (index_calls w A0 c0 l0 hr0 (by omega))
      by_cases h2 : badP l0 < 0
      · rw [if_pos h2] at h
        obtain ⟨r, hr, h⟩ := Option.bind_eq_some_iff.1 h
        simp only [Option.some.injEq, Prod.mk.injEq] at h
        obtain ⟨rfl, rfl, rfl⟩ := h
        have HJ := Aside0.mk (fun (W : World) (hW : Below w.heap.size w W) => span_joined.calls A0 c0 l0 r W (Kd.C_below hr0 hW) hc0 hr)
        clear hr0 hr
        generalize badP l0 = q at *
        have h2' : decide (q ≥ 0) = false := decide_eq_false (by omega)
        have h2'' : decide (0 ≤ q) = false := decide_eq_false (by omega)
        go_enter Try.func12, Try.ntmps12
        go_wp2_with fail
        refine HIX.out.mono ?_
        rintro e w1 ⟨rfl, hb1⟩
        have HB1 := Aside0.mk hb1
        have HJ1 := Aside0.mk (HJ.out w1 hb1)
        clear hb1
        go_wp2_with fail
        refine HJ1.out.mono ?_
        rintro e w2 ⟨v, rfl, hR, hb2⟩
        have HR := Aside0.mk (Kd.R_lower hR HB1.out.size)
        have HB2 := Aside0.mk (HB1.out.trans (hb2.mono HB1.out.size))
        obtain ⟨A3, c3, rfl⟩ := Kd.R_slice hR
        clear hR hb2
        go_wp2_with fail
        go_ret3
        exact ⟨_, rfl, HR.out, HB2.out⟩
      · rw [if_neg h2] at h
        simp only [Option.some.injEq, Prod.mk.injEq] at h
        obtain ⟨rfl, rfl, rfl⟩ := h
        clear hr0
        generalize badP l0 = q at *
        have h2' : q ≥ 0 := by omega
        go_enter Try.func12, Try.ntmps12
        go_wp2_with fail
        refine HIX.out.mono ?_
        rintro e w1 ⟨rfl, hb1⟩
        go_wp2_with fail
        go_ret3
        exact ⟨_, rfl, Kd.R_nil _ _ _ _ _, hb1⟩

end Go.Proofs.Ytkpdccegamcppaa.PSpan
