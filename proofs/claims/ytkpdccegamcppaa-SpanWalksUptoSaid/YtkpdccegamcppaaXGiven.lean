/- Spans as the document has them; what it asks whether a code point is in them. -/
import Derived.Test.YtkpdccegamcppaaXMake
import Derived.Test.YtkpdccegamcppaaPSpanx2
namespace Go.Proofs.Ytkpdccegamcppaa.PSpan
open Go.RowKit Go.Proofs.YtkpdccegamcppaaW.PrintWords Go.Proofs.YtkpdccegamcppaaW.PrintLast Go.Proofs.YtkpdccegamcppaaW.PrintMore Go.Proofs.Ytkpdccegamcppaa.SpanP
set_option linter.unusedVariables false
set_option linter.unusedSimpArgs false

abbrev Q := S68
def toR (x : S50) : Q := ⟨x.f0, x.f1⟩
def qr (x : Q) : Sp := (x.f0, x.f1)
def qrs (l : List Q) : List Sp := l.map qr
theorem qrs_toR (l : List S50) : qrs (l.map toR) = prs l := by simp [qrs, prs, qr, pr, toR]
theorem qrs_append (a b : List Q) : qrs (a ++ b) = qrs a ++ qrs b := List.map_append ..
theorem qrs_inj {a b : List Q} (h : qrs a = qrs b) : a = b := by
  have hi : ∀ x y : Q, qr x = qr y → x = y := fun x y h => by
    cases x; cases y; simp only [qr, Prod.mk.injEq] at h; rw [h.1, h.2]
  exact List.map_inj_right (fun x y => hi x y) |>.1 h
theorem toR_inj {a b : List S50} (h : a.map toR = b.map toR) : a = b := prs_inj (by rw [← qrs_toR, ← qrs_toR, h])
theorem rdq_eq (l : List Q) (i : Nat) (h : i < l.length) : rd_T68 l (i : Int) = l[i] := by
  unfold rd_T68
  rw [Int.toNat_natCast, List.getD_eq_getElem?_getD, List.getElem?_eq_getElem h]
  rfl
theorem rdp_eq (l : List S50) (i : Nat) (h : i < l.length) : rd_T50 l (i : Int) = l[i] := by
  unfold rd_T50
  rw [Int.toNat_natCast, List.getD_eq_getElem?_getD, List.getElem?_eq_getElem h]
  rfl
theorem w64s (i n : Nat) (h : i < n) (hn : n ≤ 4294967296) : wrap64 ((i : Int) + 1) = ((i + 1 : Nat) : Int) := by unfold wrap64; omega

theorem given_ev (l : List S50) (hl : l.length ≤ 4194304) : Ev (fun k => posternlaw07_given.f k l) (l.map toR) := by
  have : ∀ d i, i + d = l.length → Ev (fun k => posternlaw07_given.l0 k l ((l.take i).map toR) (i : Int)) (l.map toR) := by
    intro d
    induction d with
    | zero =>
      intro i hi
      refine Ev.step (f := fun _ => some (l.map toR)) (fun k => ?_) (Ev.now _)
      simp only [posternlaw07_given.l0]
      rw [if_neg (by omega), show i = l.length by omega, List.take_length]
    | succ d ih =>
      intro i hi
      refine Ev.step (fun k => ?_) (ih (i + 1) (by omega))
      have hlt : i < l.length := by omega
      simp only [posternlaw07_given.l0]
      rw [if_pos (by omega), if_pos (by omega), if_pos (by rw [List.length_map, List.length_take]; omega), w64s i l.length hlt (by omega), take_rd l i hlt, List.map_append]
      rfl
  exact this l.length 0 (by omega)

def hasB (q : List Sp) (p : Int) : Bool := q.any fun x => decide (x.1 ≤ p ∧ p ≤ x.2)
theorem hasB_iff (q : List Sp) (p : Int) : hasB q p = true ↔ Mem q p := by
  unfold hasB Mem
  rw [List.any_eq_true]
  constructor
  · rintro ⟨x, hx, h⟩; exact ⟨x, hx, of_decide_eq_true h⟩
  · rintro ⟨x, hx, h⟩; exact ⟨x, hx, decide_eq_true h⟩
/-! ### the edges -/

theorem w64_succ (i n : Nat) (h : i < n) (hn : n ≤ 4294967296) : wrap64 ((i : Int) + 1) = ((i + 1 : Nat) : Int) := by unfold wrap64; omega
theorem w64_pred (n : Nat) (h : n ≤ 4294967296) : wrap64 ((n : Int) - 1) = (n : Int) - 1 := by unfold wrap64; omega
theorem w32_succ {x : Int} (h : 0 ≤ x) (h1 : x ≤ 1114111) : wrap32 (x + 1) = x + 1 := by unfold wrap32; omega
theorem w32_pred {x : Int} (h : 0 ≤ x) (h1 : x ≤ 1114112) : wrap32 (x - 1) = x - 1 := by unfold wrap32; omega

end Go.Proofs.Ytkpdccegamcppaa.PSpan
