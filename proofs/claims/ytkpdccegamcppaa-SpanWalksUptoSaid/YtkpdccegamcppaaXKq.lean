/- What a round of a loop over the code points of a set keeps; the code points of a list of spans. -/
import Derived.Test.YtkpdccegamcppaaXAll
import Derived.Test.YtkpdccegamcppaaWFootNe
import Derived.RangeFuncNested
import Derived.RangeFuncBound
import Derived.RangeFuncCalls
import Derived.RangeFuncLeaves
import Derived.RangeFuncBox
namespace Go.Proofs.Ytkpdccegamcppaa.PSpan
open Go.RowKit Go.Proofs.YtkpdccegamcppaaW.PrintWords Go.Proofs.YtkpdccegamcppaaW.PrintLast Go.Proofs.YtkpdccegamcppaaW.PrintMore Go.Proofs.Ytkpdccegamcppaa.SpanP
set_option linter.unusedVariables false
set_option linter.unusedSimpArgs false

/-- Cells lie as they lay, but for the blocks of S. -/
def Kq (S : Nat → Prop) (B : Nat) (W W' : World) : Prop := Below B W W' ∧ ∀ b o, W.heap[b]? = some o → o.isCells = true → ¬ S b → W'.heap[b]? = some o
section
variable {S : Nat → Prop} {B : Nat} {W W1 W2 : World}
theorem Kq.refl (S : Nat → Prop) (B : Nat) (W : World) : Kq S B W W := ⟨Below.refl _ _, fun _ _ h _ _ => h⟩
theorem Kq.trans (h : Kq S B W W1) (k : Kq S B W1 W2) : Kq S B W W2 := ⟨h.1.trans k.1, fun b o h1 h2 h3 => k.2 b o (h.2 b o h1 h2 h3) h2 h3⟩
theorem Kq.putObj {l : Nat} {o : Obj} (o' : Obj) (hl : B ≤ l) (h : W.heap[l]? = some o) (hc : o.isCells = false) : Kq S B W (W.putObj l o') :=
  ⟨(Below.refl B W).grown (grownBy_putObj' W l o') (by have := (Array.getElem?_eq_some_iff.1 h).1; omega) (fun k e => by cases e; exact hl), fun b ob h1 h2 h3 => by
    have : b ≠ l := fun e => by subst e; rw [h] at h1; cases h1; rw [hc] at h2; cases h2
    exact (World.putObj_heap_other this).trans h1⟩
theorem Kq.of_below (h : Below W.heap.size W W1) (hB : B ≤ W.heap.size) : Kq S B W W1 := ⟨h.mono hB, fun b o h1 _ _ => (h.block b (Array.getElem?_eq_some_iff.1 h1).1).trans h1⟩
theorem Kq.set {g : Nat} (hg : B ≤ g) (hS : S g) (v : Value) : Kq S B W (W.setCell ⟨g, 0, none⟩ v) :=
  ⟨(Below.refl B W).setCell (p := ⟨g, 0, none⟩) hg _, fun b o h1 _ h3 => (Below.heap_setCell W ⟨g, 0, none⟩ v b (fun e => h3 (by rw [e]; exact hS))).trans h1⟩
theorem Kq.cell (h : Kq S B W W1) {a : Addr} {v : Value} (hc : W.cell? a = some v) (hS : ¬ S a.block) : W1.cell? a = some v := by
  obtain ⟨o, h1, h2⟩ := cells_of_cell hc
  exact (World.cell?_of_block ((h.2 _ o h1 h2 hS).trans h1.symm)).trans hc
theorem Kq.kept (h : Kq S B W W1) : Kept W W1 (fun k => ¬ (∃ o, W.heap[k]? = some o ∧ o.isCells = true ∧ ¬ S k)) := ⟨h.1.size, fun i hi hn => by
  obtain ⟨o, h1, h2, h3⟩ := Classical.not_not.1 hn
  exact (h.2 i o h1 h2 h3).trans h1.symm⟩
theorem Kq.inP (h : Kq S B W W1) {A : Option Addr} {c : Nat} {l : List Sn} (hI : InP A c l W) (hS : ∀ ad, A = some ad → 0 < l.length → ¬ S ad.block) : InP A c l W1 :=
  ⟨Kd.C_foot_neS (fun h => by rw [k50_open h]; exact k50_mk _ _) hI.1 (fun ad e hn hno => hno (by
    subst e
    obtain ⟨ad', e, k0, _⟩ := at_T50 hI.1 0 (by omega) (by omega)
    cases e
    obtain ⟨o, h1, h2⟩ := cells_of_cell k0
    exact ⟨o, h1, h2, hS _ rfl hn⟩)) _ h.kept, hI.2⟩
theorem Kq.inQ (h : Kq S B W W1) {A : Option Addr} {c : Nat} {l : List Q} (hI : InQ A c l W) (hS : ∀ ad, A = some ad → 0 < l.length → ¬ S ad.block) : InQ A c l W1 :=
  ⟨Kd.C_foot_neS (fun h => by rw [k68_open h]; exact k68_mk _ _) hI.1 (fun ad e hn hno => hno (by
    subst e
    obtain ⟨ad', e, k0, _⟩ := at_T68 hI.1 0 (by omega) (by omega)
    cases e
    obtain ⟨o, h1, h2⟩ := cells_of_cell k0
    exact ⟨o, h1, h2, hS _ rfl hn⟩)) _ h.kept, hI.2⟩
/-- The lists lie below what is laid later. -/
theorem inP_lt {A : Option Addr} {c : Nat} {l : List Sn} (hI : InP A c l W) : ∀ ad, A = some ad → 0 < l.length → ad.block < W.heap.size := fun ad e hn => by
  subst e
  obtain ⟨ad', e, k0, _⟩ := at_T50 hI.1 0 (by omega) (by omega)
  cases e
  obtain ⟨o, h1, _⟩ := cells_of_cell k0
  exact (Array.getElem?_eq_some_iff.1 h1).1
theorem inQ_lt {A : Option Addr} {c : Nat} {l : List Q} (hI : InQ A c l W) : ∀ ad, A = some ad → 0 < l.length → ad.block < W.heap.size := fun ad e hn => by
  subst e
  obtain ⟨ad', e, k0, _⟩ := at_T68 hI.1 0 (by omega) (by omega)
  cases e
  obtain ⟨o, h1, _⟩ := cells_of_cell k0
  exact (Array.getElem?_eq_some_iff.1 h1).1
theorem ownFrom_kq {β : Type} {M : Nat} (hB : B ≤ W.heap.size) (hM : B ≤ M) : OwnFrom M (fun (_ : β) W' => Kq S B W W') := fun s A C row h hg hr =>
  ⟨h.1.grown hg (Nat.le_trans hB h.1.size) (fun r e => Nat.le_trans hM (hr r e).1), fun b o h1 h2 h3 => by
    have h4 := h.2 b o h1 h2 h3
    exact (hg.block b (Array.getElem?_eq_some_iff.1 h4).1 (fun e => by
      obtain ⟨_, o2, h5, h6⟩ := hr b e.symm
      rw [h4] at h5; cases h5; rw [h2] at h6; cases h6)).trans h4⟩
end

/-- The code points of a span; of a list of spans. -/
def runP (a : Int) (n : Nat) : List Int := (List.range n).map fun i : Nat => a + (i : Int)
theorem runP_succ (a : Int) (n : Nat) : runP a (n + 1) = runP a n ++ [a + (n : Int)] := by simp [runP, List.range_succ]
def lenP (x : Sn) : Nat := (x.f1 - x.f0 + 1).toNat
def pts : List Sn → List Int
  | [] => []
  | x :: l => runP x.f0 (lenP x) ++ pts l
theorem pts_app : ∀ a b : List Sn, pts (a ++ b) = pts a ++ pts b
  | [], b => rfl
  | x :: a, b => by simp [pts, pts_app a b]
theorem pts_take {l : List Sn} {k : Nat} (h : k < l.length) : pts (l.take (k + 1)) = pts (l.take k) ++ runP l[k].f0 (lenP l[k]) := by
  rw [List.take_succ_eq_append_getElem h, pts_app]
  simp [pts]
theorem runP_len (a : Int) (n : Nat) : (runP a n).length = n := by simp [runP]
theorem pts_len : ∀ {l : List Sn}, mayL l = true → ((pts l).length : Int) = cntP l
  | [], _ => rfl
  | x :: l, h => by
    have hx := mayL_of h x List.mem_cons_self
    have ih := pts_len (l := l) (by unfold mayL at h ⊢; simp only [List.all_cons, Bool.and_eq_true] at h; exact h.2)
    have h2 : 0 ≤ x.f0 ∧ x.f0 ≤ x.f1 ∧ x.f1 ≤ 1114111 := hx
    simp only [pts, List.length_append, runP_len, Int.natCast_add, cntP, ih]
    unfold lenP
    omega
/-- The n-th code point. -/
theorem pts_at : ∀ {l : List Sn} (n : Nat), mayL l = true → n < (pts l).length → atP l (n : Int) = (pts l).getD n 0
  | [], n, _, h => absurd h (Nat.not_lt_zero n)
  | x :: l, n, hm, h => by
    have hx := mayL_of hm x List.mem_cons_self
    have h2 : 0 ≤ x.f0 ∧ x.f0 ≤ x.f1 ∧ x.f1 ≤ 1114111 := hx
    have hl : mayL l = true := by unfold mayL at hm ⊢; simp only [List.all_cons, Bool.and_eq_true] at hm; exact hm.2
    simp only [pts, List.length_append, runP_len] at h
    have hle : (lenP x : Int) = x.f1 - x.f0 + 1 := by unfold lenP; omega
    unfold atP
    by_cases c : (n : Int) < x.f1 - x.f0 + 1
    · rw [if_pos c]
      simp only [pts]
      rw [List.getD_eq_getElem?_getD, List.getElem?_append_left (by rw [runP_len]; omega)]
      simp [runP, show n < lenP x by omega]
    · rw [if_neg c]
      have ih := pts_at (l := l) (n - lenP x) hl (by omega)
      rw [show (n : Int) - (x.f1 - x.f0 + 1) = ((n - lenP x : Nat) : Int) by omega, ih]
      simp only [pts]
      rw [List.getD_eq_getElem?_getD, List.getD_eq_getElem?_getD, List.getElem?_append_right (by rw [runP_len]; omega), runP_len]

end Go.Proofs.Ytkpdccegamcppaa.PSpan
