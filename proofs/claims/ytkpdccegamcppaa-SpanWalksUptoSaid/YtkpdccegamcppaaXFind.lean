/- slices.BinarySearchFunc under span.find's closure, and span.find. -/
import Derived.Test.YtkpdccegamcppaaPSpanx25
import Derived.Test.YtkpdccegamcppaaXKit
namespace Go.Proofs.Ytkpdccegamcppaa.PSpan
open Go.RowKit Go.Proofs.YtkpdccegamcppaaW.PrintWords Go.Proofs.YtkpdccegamcppaaW.PrintLast Go.Proofs.YtkpdccegamcppaaW.PrintMore
set_option linter.unusedVariables false
set_option linter.unusedSimpArgs false

/-- How many spans, from the first on, end ahead of a code point. -/
def idxP (p : Int) : List S50 → Nat
  | [] => 0
  | x :: l => if x.f1 < p then idxP p l + 1 else 0
/-- Do the spans' ends rise? -/
def risesTo : List S50 → Bool
  | [] => true
  | x :: l => l.all (fun y => decide (x.f1 ≤ y.f1)) && risesTo l
theorem idxP_le (p : Int) : ∀ l : List S50, idxP p l ≤ l.length
  | [] => Nat.le_refl _
  | x :: l => by
    have := idxP_le p l
    unfold idxP
    split
    · simp only [List.length_cons]; omega
    · omega
theorem idxP_of (p : Int) : ∀ (l : List S50) (i : Nat), i ≤ l.length → (∀ t, t < i → (rd_T50 l (t : Nat)).f1 < p) → (i < l.length → ¬ (rd_T50 l (i : Nat)).f1 < p) → idxP p l = i
  | [], i, h, _, _ => by simp at h; rw [h]; rfl
  | x :: l, 0, h, h1, h2 => by
    have := h2 (by simp)
    unfold idxP
    rw [if_neg (by simpa [rd_T50] using this)]
  | x :: l, i + 1, h, h1, h2 => by
    have k0 := h1 0 (by omega)
    have k : idxP p l = i := idxP_of p l i (by simp only [List.length_cons] at h; omega) (fun t ht => by simpa [rd_T50] using h1 (t + 1) (by omega)) (fun ht => by simpa [rd_T50] using h2 (by simp only [List.length_cons]; omega))
    unfold idxP
    rw [if_pos (by simpa [rd_T50] using k0), k]
theorem risesTo_at : ∀ (l : List S50), risesTo l = true → ∀ i j, i ≤ j → j < l.length → (rd_T50 l (i : Nat)).f1 ≤ (rd_T50 l (j : Nat)).f1
  | [], _, i, j, _, h => by simp at h
  | x :: l, hr, i, j, hij, hj => by
    simp only [risesTo, Bool.and_eq_true, List.all_eq_true, decide_eq_true_eq] at hr
    obtain ⟨r1, r2⟩ := hr
    cases j with
    | zero => obtain rfl : i = 0 := by omega
              exact Int.le_refl _
    | succ j =>
      simp only [List.length_cons] at hj
      cases i with
      | zero =>
        have := r1 (l.getD j z50) (by rw [List.getD_eq_getElem?_getD, List.getElem?_eq_getElem (by omega)]; exact List.getElem_mem _)
        simpa [rd_T50] using this
      | succ i =>
        have := risesTo_at l r2 i j (by omega) (by omega)
        simpa [rd_T50] using this

theorem find1_f (a b p : Int) : span_find_1.f a b p = some (if b < p then -1 else if b > p then 1 else 0) := by
  unfold span_find_1.f cmp_Compare_rune.f cmp_isNaN_rune.f
  simp
  split
  · rfl
  · split <;> rfl

def AllLo (l : List S50) (p : Int) (i : Nat) : Prop := ∀ t, t < i → (rd_T50 l (t : Nat)).f1 < p
def AllHi (l : List S50) (p : Int) (j : Nat) : Prop := ∀ t, j ≤ t → t < l.length → ¬ (rd_T50 l (t : Nat)).f1 < p
def BsPost (w : World) (n : Nat) (e : Ending) (w' : World) : Prop := ∃ b, e = .returned (.tuple #[.int .i64 (n : Int), .bool b]) ∧ Below w.heap.size w w'
set_option maxRecDepth 100000 in
set_option maxHeartbeats 1600000 in
theorem bs_calls (w : World) (A : Option Addr) (c : Nat) (l : List S50) (p : Int) (hC : Kd.C k50 w A l.length l) (hl : l.length ≤ 16777216) (hs : risesTo l = true) :
    Calls Try.prog 63 #[.slice A l.length c, .int .i32 p, .func (.func 64) #[] #[]] w (BsPost w (idxP p l)) := by
  have HC := Aside0.mk hC
  have HR := Aside0.mk (risesTo_at l hs)
  have HI := Aside0.mk (idxP_of p l)
  have ent := call_enters (f := 64) Try.func64 (by kernel_rfl) (by kernel_rfl)
  clear hC hs
  generalize hq : idxP p l = q at *
  clear hq
  go_enter Try.func63, Try.ntmps63
  go_wp2_with fail
  go_loopg [9, 10] (l.length + 1) (fun k v9 v10 wr => ∃ i j : Nat, i ≤ j ∧ j ≤ l.length ∧ j - i < k ∧ v9 = .int .i64 (i : Int) ∧ v10 = .int .i64 (j : Int) ∧ Aside0 (AllLo l p i) ∧ Aside0 (AllHi l p j) ∧ Aside0 (Below w.heap.size w wr))
  case atStart => exact ⟨0, l.length, by omega, by omega, by omega, rfl, rfl, ⟨fun t ht => absurd ht (Nat.not_lt_zero t)⟩, ⟨fun t h1 h2 => by omega⟩, ⟨Below.refl _ _⟩⟩
  case round =>
    obtain ⟨i, j, hij, hjl, hk, rfl, rfl, hlo, hhi, hB⟩ := hrel
    by_cases hlt : i < j
    · have hlt' : (i : Int) < (j : Int) := by omega
      obtain ⟨h, hh, h1, h2⟩ : ∃ h : Nat, ((i : Int) + (j : Int)) / 2 = (h : Int) ∧ i ≤ h ∧ h < j := ⟨(i + j) / 2, by omega, by omega, by omega⟩
      have hn := Kd.C_len HC.out
      obtain ⟨ad, rfl, k0, k1⟩ := at_T50 (Kd.C_below HC.out hB.out) (h : Int) (by omega) (by omega)
      rw [Int.toNat_natCast] at k0 k1
      have hlo2 := fun t (ht : t ≤ h) => HR.out t h ht (by omega)
      have hhi2 := fun t (ht : h ≤ t) (ht2 : t < l.length) => HR.out h t ht ht2
      have HL := Aside0.mk hlo2
      have HH := Aside0.mk hhi2
      clear hlo2 hhi2 hn
      generalize hx1 : (rd_T50 l (h : Int)).f1 = x1 at k1 HL HH
      generalize (rd_T50 l (h : Int)).f0 = x0 at k0
      have HF := Aside0.mk (fun (W : World) => span_find_1.calls x0 x1 p _ W (find1_f x0 x1 p))
      clear hx1
      by_cases hc : x1 < p
      · rw [if_pos hc] at HF
        go_wp2_with fail
        refine (HF.out _).mono ?_
        rintro e w2 ⟨rfl, hb⟩
        have HB2 := Aside0.mk (hB.out.trans (hb.mono hB.out.size))
        clear hb
        go_wp2_with fail
        go_roundg (j - h)
        case measure => omega
        case rel => exact ⟨h + 1, j, by omega, by omega, by omega, by go_num, rfl, ⟨fun t ht => Int.lt_of_le_of_lt (HL.out t (by omega)) hc⟩, hhi, HB2⟩
      · have hz : ¬ (if x1 > p then (1 : Int) else 0) < 0 := by split <;> omega
        rw [if_neg hc] at HF
        generalize (if x1 > p then (1 : Int) else 0) = z at HF hz
        have hz2 : decide (z < 0) = false := decide_eq_false hz
        go_wp2_with fail
        refine (HF.out _).mono ?_
        rintro e w2 ⟨rfl, hb⟩
        have HB2 := Aside0.mk (hB.out.trans (hb.mono hB.out.size))
        clear hb
        go_wp2_with fail
        go_roundg (h - i + 1)
        case measure => omega
        case rel => exact ⟨i, h, by omega, by omega, by omega, rfl, rfl, hlo, ⟨fun t h1 h2 => Int.not_lt.2 (Int.le_trans (by first | exact hc | exact Int.not_lt.1 hc) (HH.out t h1 h2))⟩, HB2⟩
    · obtain rfl : i = j := by omega
      have hlt' : ¬ (i : Int) < (i : Int) := by omega
      have HE := Aside0.mk (HI.out i (by omega) hlo.out (fun h => by first | exact hhi.out i (Nat.le_refl _) h | exact Int.not_lt.1 (hhi.out i (Nat.le_refl _) h)))
      have hF := fun (W : World) (b : Bool) (hW : Below w.heap.size w W) => (show BsPost w q (.returned (.tuple #[.int .i64 (i : Int), .bool b])) W from ⟨b, by rw [HE.out], hW⟩)
      have HFIN := Aside0.mk hF
      clear hF
      by_cases hil : i < l.length
      · have hil' : (i : Int) < (l.length : Int) := by omega
        obtain ⟨ad, rfl, k0, k1⟩ := at_T50 (Kd.C_below HC.out hB.out) (i : Int) (by omega) (by omega)
        rw [Int.toNat_natCast] at k0 k1
        generalize (rd_T50 l (i : Int)).f1 = x1 at k1
        generalize (rd_T50 l (i : Int)).f0 = x0 at k0
        have HF := Aside0.mk (fun (W : World) => span_find_1.calls x0 x1 p _ W (find1_f x0 x1 p))
        generalize (if x1 < p then (-1 : Int) else if x1 > p then (1 : Int) else 0) = z at HF
        clear hlo hhi
        go_wp2_with fail
        refine (HF.out _).mono ?_
        rintro e w2 ⟨rfl, hb⟩
        have HB2 := Aside0.mk (hB.out.trans (hb.mono hB.out.size))
        clear hb
        go_wp2_with fail
        go_ret2
        exact HFIN.out _ _ HB2.out
      · have hil' : ¬ (i : Int) < (l.length : Int) := by omega
        clear hlo hhi
        go_wp2_with fail
        go_ret2
        exact HFIN.out _ _ hB.out

def span_find.f (l0 : List S50) (a1 : Int) : Option Int := if l0.length ≤ 16777216 ∧ risesTo l0 = true then some (idxP a1 l0 : Nat) else none
set_option maxRecDepth 100000 in
theorem span_find.calls (A0 : Option Addr) (c0 : Nat) (l0 : List S50) (a1 : Int) (r : Int) (w : World) (hr0 : Kd.C k50 w A0 l0.length l0) (hc0 : l0.length ≤ c0) (h : span_find.f l0 a1 = some r) :
    Calls Try.prog 52 #[.slice A0 l0.length c0, .int .i32 a1] w fun e w' => e = .returned (.int .i64 r) ∧ Below w.heap.size w w' := by
  unfold span_find.f at h
  by_cases hl : l0.length ≤ 16777216 ∧ risesTo l0 = true
  · rw [if_pos hl] at h
    obtain rfl := Option.some.inj h
    have HB := Aside0.mk (bs_calls w A0 c0 l0 a1 hr0 hl.1 hl.2)
    clear hl h hr0
    generalize idxP a1 l0 = q at *
    go_enter Try.func52, Try.ntmps52
    go_wp2_with fail
    refine HB.out.mono ?_
    rintro e w' ⟨b, rfl, hb⟩
    go_wp2_with fail
    go_ret
    exact ⟨rfl, hb⟩
  · rw [if_neg hl] at h
    cases h

end Go.Proofs.Ytkpdccegamcppaa.PSpan
