/- The span seat's functions as contracts with their answers; what holds in all later worlds. -/
import Derived.Test.YtkpdccegamcppaaXEvI
namespace Go.Proofs.Ytkpdccegamcppaa.PSpan
open Go.RowKit Go.Proofs.YtkpdccegamcppaaW.PrintWords Go.Proofs.YtkpdccegamcppaaW.PrintLast Go.Proofs.YtkpdccegamcppaaW.PrintMore Go.Proofs.Ytkpdccegamcppaa.SpanP
set_option linter.unusedVariables false
set_option linter.unusedSimpArgs false

/-- What holds now and in all later worlds. -/
def Lat (w : World) (P : World → Prop) : Prop := ∀ W, Below w.heap.size w W → P W
theorem Lat.here {w : World} {P : World → Prop} (h : Lat w P) : P w := h w (Below.refl _ _)
theorem Lat.step {w w1 : World} {P : World → Prop} (h : Lat w P) (hb : Below w.heap.size w w1) : Lat w1 P := fun W hW => h W (hb.trans (hW.mono hb.size))
theorem Lat.next {w w1 : World} {P Q : World → Prop} (h : Lat w P) (hb : Below w.heap.size w w1) (k : Lat w1 Q) : Lat w1 (fun W => P W ∧ Q W) := fun W hW => ⟨h.step hb W hW, k W hW⟩
theorem lat_base (w : World) : Lat w (fun W => Below w.heap.size w W) := fun _ hW => hW
/-- A list of spans in memory. -/
def InP (A : Option Addr) (c : Nat) (l : List Sn) (W : World) : Prop := Kd.C k50 W A l.length l ∧ l.length ≤ c
def InQ (A : Option Addr) (c : Nat) (l : List Q) (W : World) : Prop := Kd.C k68 W A l.length l ∧ l.length ≤ c
theorem lat_P {w : World} {A : Option Addr} {c : Nat} {l : List Sn} (h : InP A c l w) : Lat w (InP A c l) := fun _ hW => ⟨Kd.C_below h.1 hW, h.2⟩
theorem lat_Q {w : World} {A : Option Addr} {c : Nat} {l : List Q} (h : InQ A c l w) : Lat w (InQ A c l) := fun _ hW => ⟨Kd.C_below h.1 hW, h.2⟩
theorem in_nilQ (w : World) : InQ none 0 [] w := ⟨⟨rfl, Nat.zero_le _, fun h => absurd h (Nat.lt_irrefl 0)⟩, Nat.zero_le _⟩

/-- A list is handed back, and two numbers, one, or none. -/
def P3 (W : World) (r : List Sn) (n m : Int) (e : Ending) (w' : World) : Prop := ∃ A c, e = .returned (.tuple #[.slice A r.length c, .int .i64 n, .int .i64 m]) ∧ InP A c r w' ∧ Below W.heap.size W w'
def P2 (W : World) (r : List Sn) (m : Int) (e : Ending) (w' : World) : Prop := ∃ A c, e = .returned (.tuple #[.slice A r.length c, .int .i64 m]) ∧ InP A c r w' ∧ Below W.heap.size W w'
def PQ (W : World) (r : List Q) (e : Ending) (w' : World) : Prop := ∃ A c, e = .returned (.slice A r.length c) ∧ InQ A c r w' ∧ Below W.heap.size W w'
def PB (W : World) (b : Bool) (e : Ending) (w' : World) : Prop := e = .returned (.bool b) ∧ Below W.heap.size W w'
def PI (W : World) (k : IntKind) (n : Int) (e : Ending) (w' : World) : Prop := e = .returned (.int k n) ∧ Below W.heap.size W w'
def PIB (W : World) (n : Int) (b : Bool) (e : Ending) (w' : World) : Prop := e = .returned (.tuple #[.int .i64 n, .bool b]) ∧ Below W.heap.size W w'

theorem below_lit {W w' : World} {o : Obj} (h : Below (W.alloc o).heap.size (W.alloc o) w') : Below W.heap.size W w' := (below_alloc (Below.refl W.heap.size W) o).trans (h.mono (by simp))
theorem own_P {w w' : World} {v : Value} {r : List Sn} {base : Nat} (h : Kd.R k50 50 w' base (fun _ => True) v r) : ∃ A c, v = .slice A r.length c ∧ InP A c r w' := by
  obtain ⟨A, c, rfl, h1, h2⟩ := Kd.R_reads h
  exact ⟨A, c, rfl, h2, h1⟩

section
variable {W : World} {A0 A1 A2 : Option Addr} {c0 c1 c2 : Nat} {l0 l1 l2 : List Sn}
theorem c_given (h0 : InP A0 c0 l0 W) (hl : l0.length ≤ 4194304) : Calls Try.prog 11 #[.slice A0 l0.length c0] W (PQ W (l0.map toR)) := by
  obtain ⟨k, hk⟩ := (given_ev l0 hl).rounds
  refine (posternlaw07_given.calls k A0 c0 l0 _ W h0.1 h0.2 hk).mono ?_
  rintro e w' ⟨v, rfl, hR, hb⟩
  obtain ⟨A, c, rfl, k1, k2⟩ := Kd.R_reads hR
  exact ⟨A, c, rfl, ⟨k2, k1⟩, hb⟩
theorem c_alike {q : List Q} {b : Bool} (h0 : InP A0 c0 l0 W) (h1 : InQ A1 c1 q W) (ev : Ev (fun k => posternlaw07_alike.f k l0 q) b) : Calls Try.prog 15 #[.slice A0 l0.length c0, .slice A1 q.length c1] W (PB W b) := by
  obtain ⟨k, hk⟩ := ev.rounds
  exact (posternlaw07_alike.calls k A0 c0 l0 A1 c1 q b W h0.1 h0.2 h1.1 h1.2 hk).mono fun e w' ⟨he, hd⟩ => ⟨he, hd.below⟩
theorem c_isQ {q : List Q} {b : Bool} (h1 : InQ A1 c1 q W) (ev : Ev (fun k => posternref07_Is.f k q) b) : Calls Try.prog 17 #[.slice A1 q.length c1] W (PB W b) := by
  obtain ⟨k, hk⟩ := ev.rounds
  exact (posternref07_Is.calls k A1 c1 q b W h1.1 h1.2 hk).mono fun e w' ⟨he, hd⟩ => ⟨he, hd⟩
theorem c_is {r : Bool} (h0 : InP A0 c0 l0 W) (ev : Ev (fun k => span_Is.f k l0) r) : Calls Try.prog 16 #[.slice A0 l0.length c0] W (PB W r) := by
  obtain ⟨k, hk⟩ := ev.rounds
  exact (span_Is.calls k A0 c0 l0 r W h0.1 h0.2 hk).mono fun e w' ⟨he, hd⟩ => ⟨he, hd⟩
theorem c_awake (W : World) : Calls Try.prog 14 #[] W (PB W true) :=
  (posternlaw07_awake.calls true W awake_f).mono fun e w' ⟨he, hd⟩ => ⟨he, hd⟩
end

end Go.Proofs.Ytkpdccegamcppaa.PSpan
