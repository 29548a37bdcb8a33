/- slices.BinarySearchFunc over spans, span.find, span.Has, in the stage seat, by hand. -/
import Derived.Test.YtajmbafljncjcaaSpI
namespace Go.Proofs.Ytajmbafljncjcaa.Stage
open Go.RowKit Go.Proofs.YtajmbafljncjcaaW.PrintWords Go.Proofs.YtajmbafljncjcaaW.PrintLast Go.Proofs.YtajmbafljncjcaaW.PrintMore
set_option linter.unusedVariables false
set_option linter.unusedSimpArgs false

theorem nan_calls (W : World) (a : Int) : Calls Try.prog 109 #[.int .i32 a] W fun e w' => e = .returned (.bool false) ∧ w' = W := by
  go_enter Try.func109, Try.ntmps109
  go_wp2_with fail
  go_ret
  exact ⟨by simp, rfl⟩
def cmpZ (a b : Int) : Int := if a < b then -1 else if b < a then 1 else 0
set_option maxRecDepth 100000 in
theorem cmp_calls (W : World) (a b : Int) : Calls Try.prog 100 #[.int .i32 a, .int .i32 b] W fun e w' => e = .returned (.int .i64 (cmpZ a b)) ∧ w' = W := by
  have HN := Aside0.mk (fun (W : World) (x : Int) => nan_calls W x)
  by_cases h1 : a < b
  · rw [show cmpZ a b = -1 from if_pos h1]
    go_enter Try.func100, Try.ntmps100
    go_wp2_with fail
    refine (HN.out W a).mono ?_
    rintro e w1 ⟨rfl, rfl⟩
    go_wp2_with fail
    refine (HN.out w1 b).mono ?_
    rintro e w2 ⟨rfl, rfl⟩
    go_wp2_with fail
    go_ret
    exact ⟨rfl, rfl⟩
  · by_cases h2 : b < a
    · have h2' : a > b := h2
      rw [show cmpZ a b = 1 from (if_neg h1).trans (if_pos h2)]
      go_enter Try.func100, Try.ntmps100
      go_wp2_with fail
      refine (HN.out W a).mono ?_
      rintro e w1 ⟨rfl, rfl⟩
      go_wp2_with fail
      refine (HN.out w1 b).mono ?_
      rintro e w2 ⟨rfl, rfl⟩
      go_wp2_with fail
      go_ret
      exact ⟨rfl, rfl⟩
    · have h2' : ¬ a > b := h2
      rw [show cmpZ a b = 0 from (if_neg h1).trans (if_neg h2)]
      go_enter Try.func100, Try.ntmps100
      go_wp2_with fail
      refine (HN.out W a).mono ?_
      rintro e w1 ⟨rfl, rfl⟩
      go_wp2_with fail
      refine (HN.out w1 b).mono ?_
      rintro e w2 ⟨rfl, rfl⟩
      go_wp2_with fail
      go_ret
      exact ⟨rfl, rfl⟩
/-- A function value that compares where a span ends. -/
structure CmpF (N : FuncId) : Prop where
  ent : ∀ (args : Array Value) (W : World), (callFunc N args).run Try.prog W = .ok (.enter N args) W
  says : ∀ (W : World) (a b p : Int), Calls Try.prog N #[.agg #[.int .i32 a, .int .i32 b], .int .i32 p] W fun e w' => e = .returned (.int .i64 (cmpZ b p)) ∧ Below W.heap.size W w'
set_option maxRecDepth 100000 in
theorem find1_cmp : CmpF 108 where
  ent := fun args W => call_enters (f := 108) Try.func108 (by kernel_rfl) (by kernel_rfl) args W
  says := fun W a b p => by
    have HC := Aside0.mk (fun (W : World) => cmp_calls W b p)
    have HB := Aside0.mk (below_alloc (Below.refl W.heap.size W) (.cells #[.int .i32 a, .int .i32 b] 47))
    go_enter Try.func108, Try.ntmps108
    go_wp2_with fail
    refine (HC.out _).mono ?_
    rintro e w1 ⟨rfl, rfl⟩
    go_wp2_with fail
    go_ret
    exact ⟨rfl, HB.out⟩
set_option maxRecDepth 100000 in
theorem whole1_cmp : CmpF 99 where
  ent := fun args W => call_enters (f := 99) Try.func99 (by kernel_rfl) (by kernel_rfl) args W
  says := fun W a b p => by
    have HC := Aside0.mk (fun (W : World) => cmp_calls W b p)
    have HB := Aside0.mk (below_alloc (Below.refl W.heap.size W) (.cells #[.int .i32 a, .int .i32 b] 47))
    go_enter Try.func99, Try.ntmps99
    go_wp2_with fail
    refine (HC.out _).mono ?_
    rintro e w1 ⟨rfl, rfl⟩
    go_wp2_with fail
    go_ret
    exact ⟨rfl, HB.out⟩

/-- How many spans, from the first on, end ahead of a code point. -/
def idxS (p : Int) : List (Int × Int) → Nat
  | [] => 0
  | x :: l => if x.2 < p then idxS p l + 1 else 0
theorem idxS_of (p : Int) : ∀ (l : List (Int × Int)) (i : Nat), i ≤ l.length → (∀ t, t < i → (l.getD t (0, 0)).2 < p) → (i < l.length → ¬ (l.getD i (0, 0)).2 < p) → idxS p l = i
  | [], i, h, _, _ => by simp at h; rw [h]; rfl
  | x :: l, 0, h, h1, h2 => by
    have := h2 (by simp)
    unfold idxS
    rw [if_neg (by simpa using this)]
  | x :: l, i + 1, h, h1, h2 => by
    have k0 := h1 0 (by omega)
    have k : idxS p l = i := idxS_of p l i (by simp only [List.length_cons] at h; omega) (fun t ht => by simpa using h1 (t + 1) (by omega)) (fun ht => by simpa using h2 (by simp only [List.length_cons]; omega))
    unfold idxS
    rw [if_pos (by simpa using k0), k]
def EndsRise (l : List (Int × Int)) : Prop := ∀ i j, i ≤ j → j < l.length → (l.getD i (0, 0)).2 ≤ (l.getD j (0, 0)).2
def AllLoS (l : List (Int × Int)) (p : Int) (i : Nat) : Prop := ∀ t, t < i → (l.getD t (0, 0)).2 < p
def AllHiS (l : List (Int × Int)) (p : Int) (j : Nat) : Prop := ∀ t, j ≤ t → t < l.length → ¬ (l.getD t (0, 0)).2 < p
def BsPostS (w : World) (n : Nat) (e : Ending) (w' : World) : Prop := ∃ b, e = .returned (.tuple #[.int .i64 (n : Int), .bool b]) ∧ Below w.heap.size w w'
theorem cmpZ_lt {a b : Int} (h : a < b) : cmpZ a b = -1 := if_pos h
theorem cmpZ_ge {a b : Int} (h : ¬ a < b) : ¬ cmpZ a b < 0 := by unfold cmpZ; rw [if_neg h]; split <;> omega
set_option maxRecDepth 100000 in
set_option maxHeartbeats 1600000 in
theorem bsS_calls {N : FuncId} (hN : CmpF N) (w : World) (A : Option Addr) (c : Nat) (l : List (Int × Int)) (p : Int) (hC : SpI w A l) (hl : l.length ≤ 16777216) (hs : EndsRise l) :
    Calls Try.prog 98 #[.slice A l.length c, .int .i32 p, .func (.func N) #[] #[]] w (BsPostS w (idxS p l)) := by
  have HC := Aside0.mk hC
  have HR := Aside0.mk hs
  have HI := Aside0.mk (idxS_of p l)
  have ent := hN.ent
  have HNS := Aside0.mk hN.says
  clear hC hs hN
  generalize hq : idxS p l = q at *
  clear hq
  go_enter Try.func98, Try.ntmps98
  go_wp2_with fail
  go_loopg [9, 10] (l.length + 1) (fun k v9 v10 wr => ∃ i j : Nat, i ≤ j ∧ j ≤ l.length ∧ j - i < k ∧ v9 = .int .i64 (i : Int) ∧ v10 = .int .i64 (j : Int) ∧ Aside0 (AllLoS l p i) ∧ Aside0 (AllHiS l p j) ∧ Aside0 (Below w.heap.size w wr))
  case atStart => exact ⟨0, l.length, by omega, by omega, by omega, rfl, rfl, ⟨fun t ht => absurd ht (Nat.not_lt_zero t)⟩, ⟨fun t h1 h2 => by omega⟩, ⟨Below.refl _ _⟩⟩
  case round =>
    obtain ⟨i, j, hij, hjl, hk, rfl, rfl, hlo, hhi, hB⟩ := hrel
    by_cases hlt : i < j
    · have hlt' : (i : Int) < (j : Int) := by omega
      obtain ⟨h, hh, h1, h2⟩ : ∃ h : Nat, ((i : Int) + (j : Int)) / 2 = (h : Int) ∧ i ≤ h ∧ h < j := ⟨(i + j) / 2, by omega, by omega, by omega⟩
      obtain ⟨ad, rfl, k0, k1⟩ := (HC.out.below hB.out) h (by omega)
      have HL := Aside0.mk (fun t (ht : t ≤ h) => HR.out t h ht (by omega))
      have HH := Aside0.mk (fun t (ht : h ≤ t) (ht2 : t < l.length) => HR.out h t ht ht2)
      generalize (l.getD h (0, 0)).2 = x1 at k1 HL HH
      generalize (l.getD h (0, 0)).1 = x0 at k0
      have HF := Aside0.mk (fun (W : World) => HNS.out W x0 x1 p)
      by_cases hc : x1 < p
      · rw [cmpZ_lt hc] at HF
        go_wp2_with fail
        refine (HF.out _).mono ?_
        rintro e w2 ⟨rfl, hb⟩
        have HB2 := Aside0.mk (hB.out.trans (hb.mono hB.out.size))
        clear hb
        go_wp2_with fail
        go_roundg (j - h)
        case measure => omega
        case rel => exact ⟨h + 1, j, by omega, by omega, by omega, by go_num, rfl, ⟨fun t ht => Int.lt_of_le_of_lt (HL.out t (by omega)) hc⟩, hhi, HB2⟩
      · have hz := cmpZ_ge hc
        generalize cmpZ x1 p = z at HF hz
        have hz2 : decide (z < 0) = false := decide_eq_false hz
        go_wp2_with fail
        refine (HF.out _).mono ?_
        rintro e w2 ⟨rfl, hb⟩
        have HB2 := Aside0.mk (hB.out.trans (hb.mono hB.out.size))
        clear hb
        go_wp2_with fail
        go_roundg (h - i + 1)
        case measure => omega
        case rel => exact ⟨i, h, by omega, by omega, by omega, rfl, rfl, hlo, ⟨fun t h1 h2 => Int.not_lt.2 (Int.le_trans (by first | exact hc | exact Int.not_lt.1 hc) (HH.out t h1 h2))⟩, HB2⟩
    · obtain rfl : i = j := by omega
      have hlt' : ¬ (i : Int) < (i : Int) := by omega
      have HE := Aside0.mk (HI.out i (by omega) hlo.out (fun h => by first | exact hhi.out i (Nat.le_refl _) h | exact Int.not_lt.1 (hhi.out i (Nat.le_refl _) h)))
      have HFIN := Aside0.mk (fun (W : World) (b : Bool) (hW : Below w.heap.size w W) => (show BsPostS w q (.returned (.tuple #[.int .i64 (i : Int), .bool b])) W from ⟨b, by rw [HE.out], hW⟩))
      by_cases hil : i < l.length
      · have hil' : (i : Int) < (l.length : Int) := by omega
        obtain ⟨ad, rfl, k0, k1⟩ := (HC.out.below hB.out) i hil
        generalize (l.getD i (0, 0)).2 = x1 at k1
        generalize (l.getD i (0, 0)).1 = x0 at k0
        have HF := Aside0.mk (fun (W : World) => HNS.out W x0 x1 p)
        generalize cmpZ x1 p = z at HF
        clear hlo hhi
        go_wp2_with fail
        refine (HF.out _).mono ?_
        rintro e w2 ⟨rfl, hb⟩
        have HB2 := Aside0.mk (hB.out.trans (hb.mono hB.out.size))
        clear hb
        go_wp2_with fail
        go_ret2
        exact HFIN.out _ _ HB2.out
      · have hil' : ¬ (i : Int) < (l.length : Int) := by omega
        clear hlo hhi
        go_wp2_with fail
        go_ret2
        exact HFIN.out _ _ hB.out
set_option maxRecDepth 100000 in
theorem find_calls (w : World) (A : Option Addr) (c : Nat) (l : List (Int × Int)) (p : Int) (hC : SpI w A l) (hl : l.length ≤ 16777216) (hs : EndsRise l) :
    Calls Try.prog 96 #[.slice A l.length c, .int .i32 p] w fun e w' => e = .returned (.int .i64 (idxS p l : Nat)) ∧ Below w.heap.size w w' := by
  have HB := Aside0.mk (bsS_calls find1_cmp w A c l p hC hl hs)
  clear hs hl hC
  generalize idxS p l = q at *
  go_enter Try.func96, Try.ntmps96
  go_wp2_with fail
  refine HB.out.mono ?_
  rintro e w' ⟨b, rfl, hb⟩
  go_wp2_with fail
  go_ret
  exact ⟨rfl, hb⟩

end Go.Proofs.Ytajmbafljncjcaa.Stage
