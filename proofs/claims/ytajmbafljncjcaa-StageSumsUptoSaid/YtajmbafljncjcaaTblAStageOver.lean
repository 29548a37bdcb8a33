/- A table and its rows in one word; what built comes to. -/
import Derived.Test.YtajmbafljncjcaaAwakeStageOver
import Derived.Test.YtajmbafljncjcaaStE
namespace Go.Proofs.Ytajmbafljncjcaa.PStageOver
open Go.RowKit Go.Proofs.YtajmbafljncjcaaW.PrintWords Go.Proofs.YtajmbafljncjcaaW.PrintLast Go.Proofs.YtajmbafljncjcaaW.PrintMore Go.Proofs.Ytajmbafljncjcaa.Stage Go.Proofs.Ytajmbafljncjcaa.Mp
set_option linter.unusedVariables false
set_option linter.unusedSimpArgs false

/-- A table and the rows that it says. -/
structure Tbl (w : World) (v : Option Addr) (q : List (Nat × Nat × Nat)) (A : Option Addr) (n c : Nat) : Prop where
  len : q.length = n
  han : Han w v (sayQ q)
  rise : RiseN 0 q
  few : q.length ≤ 1114112
  cap : q.length ≤ c
  mem : Kd.C k30 w A q.length (q.map toS)
theorem Tbl.below {w w1 : World} {v : Option Addr} {q : List (Nat × Nat × Nat)} {A : Option Addr} {n c : Nat} (h : Tbl w v q A n c) (hb : Below w.heap.size w w1) : Tbl w1 v q A n c :=
  ⟨h.len, h.han.below hb, h.rise, h.few, h.cap, Kd.C_below h.mem hb⟩
theorem tbl_nil (w : World) : Tbl w none [] none 0 0 :=
  ⟨rfl, .inl ⟨rfl, fun _ _ => rfl⟩, trivial, Nat.zero_le _, Nat.le_refl _, rfl, Nat.zero_le _, fun hp => absurd hp (Nat.lt_irrefl 0)⟩

def Built2 (w : World) (l : List S40) (e : Ending) (w' : World) : Prop :=
  Below w.heap.size w w' ∧ ∃ (v : Option Addr) (A : Option Addr) (n c : Nat) (is : Bool), e = .returned (.tuple #[.pointer v, .slice A n c, .bool is, .bool true]) ∧
    (is = true → ∃ q, Tbl w' v q A n c ∧ l.map ofV = q.map toS ∧ q = natR (l.map tri) ∧ checkR (l.map tri) = (0, 0) ∧ ∃ b, v = some ⟨b, 0, none⟩) ∧ (is = false → v = none ∧ (checkR (l.map tri)).2 ≠ 0)
theorem built2_calls (w : World) (A0 : Option Addr) (c0 : Nat) (l : List S40) (hC : Kd.C k40 w A0 l.length l) (hc0 : l.length ≤ c0) (hf : Fits l) (hl : l.length ≤ 1048576) :
    Calls Try.prog 14 #[.slice A0 l.length c0] w (Built2 w l) := by
  refine (built_calls w A0 c0 l hC hc0 hf hl).mono ?_
  rintro e w1 ⟨hb1, v, vr, rfl, hR, hyes, hno⟩
  obtain ⟨A4, c4, rfl, hl4, hC4⟩ := Kd.R_reads hR
  refine ⟨hb1, v, A4, _, c4, _, rfl, fun he => ?_, fun he => ?_⟩
  · have he := of_decide_eq_true he
    obtain ⟨b, rfl, ht⟩ := hyes he
    obtain ⟨h0, hlen, hrise, hpos⟩ := checkR_ok he
    have e1 := natR_tri hpos
    refine ⟨natR (l.map tri), ⟨?_, .inr ⟨b, rfl, ht⟩, hrise, ?_, ?_, ?_⟩, e1, rfl, h0, b, rfl⟩
    · rw [e1, List.length_map]
    · rw [natR_len]; omega
    · rw [e1, List.length_map] at hl4; exact hl4
    · rw [e1, List.length_map] at hC4; exact hC4
  · have he := of_decide_eq_false he
    exact ⟨hno he, he⟩

/-- The rows of which a law speaks: those of a table, none where there is none. -/
def RowsOf (w : World) (is : Bool) (v A4 : Option Addr) (n4 c4 : Nat) (q : List (Nat × Nat × Nat)) (A : Option Addr) (n c : Nat) : Prop :=
  Tbl w v q A n c ∧ ((is = true ∧ A = A4 ∧ n = n4 ∧ c = c4) ∨ (is = false ∧ v = none ∧ A = none ∧ n = 0 ∧ c = 0))
theorem Built2.rows {w w1 : World} {l : List S40} {e : Ending} (h : Built2 w l e w1) :
    Below w.heap.size w w1 ∧ ∃ (v : Option Addr) (A4 : Option Addr) (n4 c4 : Nat) (is : Bool), e = .returned (.tuple #[.pointer v, .slice A4 n4 c4, .bool is, .bool true]) ∧ ∃ q A n c, RowsOf w1 is v A4 n4 c4 q A n c := by
  obtain ⟨hb, v, A4, n4, c4, is, rfl, hyes, hno⟩ := h
  refine ⟨hb, v, A4, n4, c4, is, rfl, ?_⟩
  cases is with
  | true => obtain ⟨q, h2, _⟩ := hyes rfl; exact ⟨q, A4, n4, c4, h2, .inl ⟨rfl, rfl, rfl, rfl⟩⟩
  | false => obtain ⟨rfl, _⟩ := hno rfl; exact ⟨[], none, 0, 0, tbl_nil _, .inr ⟨rfl, rfl, rfl, rfl, rfl⟩⟩

end Go.Proofs.Ytajmbafljncjcaa.PStageOver
