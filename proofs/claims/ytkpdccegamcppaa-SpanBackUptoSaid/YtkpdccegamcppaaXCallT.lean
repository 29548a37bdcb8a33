/- Text and Parse as contracts with their answers. -/
import Derived.Test.YtkpdccegamcppaaXRead
import Derived.Test.YtkpdccegamcppaaXTells
import Derived.Test.YtkpdccegamcppaaXCallA
import Derived.Test.YtkpdccegamcppaaXRow
namespace Go.Proofs.Ytkpdccegamcppaa.PSpan
open Go.RowKit Go.Proofs.YtkpdccegamcppaaW.PrintWords Go.Proofs.YtkpdccegamcppaaW.PrintLast Go.Proofs.YtkpdccegamcppaaW.PrintMore Go.Proofs.Ytkpdccegamcppaa.SpanP
set_option linter.unusedVariables false
set_option linter.unusedSimpArgs false

/-- How long a text may be under the second form's bound. -/
theorem string_small {H : Type} {b : List UInt8} {l : List (DataW H)} (h : Rows.uptoBulk (H := H) (.lit (.string b)) ≤ Rows.uptoBulkAll l) (hs : Rows.uptoBulkAll l ≤ 1048576) : b.length ≤ 1048576 := by
  have : Rows.uptoBulk (H := H) (.lit (.string b)) = b.length + 1 := by simp [Rows.uptoBulk]
  omega
def PS (W : World) (r : ByteArray) (m : Int) (e : Ending) (w' : World) : Prop := e = .returned (.tuple #[.string r, .int .i64 m]) ∧ Below W.heap.size W w'
def PT (W : World) (r : ByteArray) (e : Ending) (w' : World) : Prop := e = .returned (.string r) ∧ Below W.heap.size W w'
def PQ3 (W : World) (r : List Q) (n m : Int) (e : Ending) (w' : World) : Prop := ∃ A c, e = .returned (.tuple #[.slice A r.length c, .int .i64 n, .int .i64 m]) ∧ InQ A c r w' ∧ Below W.heap.size W w'
section
variable {W : World} {A0 A1 A2 : Option Addr} {c0 c1 c2 : Nat} {l0 l1 l2 : List Sn}
theorem c_text {r : ByteArray} {m : Int} (h0 : InP A0 c0 l0 W) (ev : Ev (fun k => span_Text.f k l0) (r, m)) : Calls Try.prog 37 #[.slice A0 l0.length c0] W (PS W r m) := by
  obtain ⟨k, hk⟩ := ev.rounds
  exact (span_Text.calls k A0 c0 l0 r m W h0.1 h0.2 hk).mono fun e w' ⟨he, hd⟩ => ⟨he, hd⟩
theorem c_textQ {q : List Q} {r : ByteArray} (h1 : InQ A1 c1 q W) (ev : Ev (fun k => posternref07_Text.f k q) r) : Calls Try.prog 40 #[.slice A1 q.length c1] W (PT W r) := by
  obtain ⟨k, hk⟩ := ev.rounds
  exact (posternref07_Text.calls k A1 c1 q r W h1.1 h1.2 hk).mono fun e w' ⟨he, hd⟩ => ⟨he, hd.below⟩
theorem c_parse (W : World) {s : ByteArray} {r : List Sn} {n m : Int} (ev : Ev (fun k => span_Parse.f k s) (r, n, m)) : Calls Try.prog 38 #[.string s] W (P3 W r n m) := by
  obtain ⟨k, hk⟩ := ev.rounds
  refine (span_Parse.calls k s r n m W hk).mono ?_
  rintro e w' ⟨v, rfl, hR, hb⟩
  obtain ⟨A, c, rfl, hI⟩ := own_P (w := W) hR
  exact ⟨A, c, rfl, hI, hb⟩
theorem c_parseQ (W : World) {s : ByteArray} {r : List Q} {n m : Int} (ev : Ev (fun k => posternref07_Parse.f k s) (r, n, m)) : Calls Try.prog 39 #[.string s] W (PQ3 W r n m) := by
  obtain ⟨k, hk⟩ := ev.rounds
  refine (posternref07_Parse.calls k s r n m W hk).mono ?_
  rintro e w' ⟨v, rfl, hR, hb⟩
  obtain ⟨A, c, rfl, k1, k2⟩ := Kd.R_reads hR
  exact ⟨A, c, rfl, ⟨k2, k1⟩, hb⟩
end
/-- What a text's error may be. -/
theorem parN_err {s : ByteArray} {rec : List Sn → Int → Int → List Sn × Int × Int} (h : ∀ a b c, 0 ≤ (rec a b c).2.2 ∧ (rec a b c).2.2 ≤ 72) (out : List Sn) (r : Bool × Int × Int × Int) : 0 ≤ (parN s rec out r).2.2 ∧ (parN s rec out r).2.2 ≤ 72 := by
  unfold parN
  repeat' split
  all_goals first | exact h _ _ _ | exact (show (0 : Int) ≤ 72 ∧ (72 : Int) ≤ 72 by decide) | exact (show (0 : Int) ≤ 71 ∧ (71 : Int) ≤ 72 by decide) | exact (show (0 : Int) ≤ 0 ∧ (0 : Int) ≤ 72 by decide)
theorem parR_err (s : ByteArray) : ∀ f out low i, 0 ≤ (parR s f out low i).2.2 ∧ (parR s f out low i).2.2 ≤ 72
  | 0, _, _, _ => (show (0 : Int) ≤ 0 ∧ (0 : Int) ≤ 72 by decide)
  | f + 1, _, _, _ => by rw [parR]; exact parN_err (parR_err s f) _ _
theorem parse_err (s : ByteArray) : 0 ≤ (parse s).2.2 ∧ (parse s).2.2 ≤ 72 := by
  unfold parse
  split
  · exact (show (0 : Int) ≤ 0 ∧ (0 : Int) ≤ 72 by decide)
  · exact parR_err s _ _ _ _
/-- How many spans a text tells at most. -/
theorem parse_len (s : ByteArray) : (parse s).1.length ≤ 65536 := by
  have : ∀ f out low i, (parR s f out low i).1.length ≤ 65536 := by
    intro f
    induction f with
    | zero => intro out low i; exact Nat.zero_le _
    | succ f ih =>
      intro out low i
      rw [parR]
      unfold parN
      split
      · split
        · split
          · exact Nat.zero_le _
          · rename_i h; show (out ++ _).length ≤ 65536; omega
        · split
          · exact Nat.zero_le _
          · exact ih _ _ _
      · exact Nat.zero_le _
  unfold parse
  split
  · exact Nat.zero_le _
  · exact this _ _ _ _

end Go.Proofs.Ytkpdccegamcppaa.PSpan
