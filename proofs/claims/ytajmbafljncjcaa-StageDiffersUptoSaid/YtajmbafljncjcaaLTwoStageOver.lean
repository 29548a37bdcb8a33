/- A table and its rows in one word; what built comes to. The laws' two: two tables and their rows. -/
import Derived.Test.YtajmbafljncjcaaAwakeStageOver
import Derived.Test.YtajmbafljncjcaaStE
/-! ### TblA: A table and its rows in one word; what built comes to. -/
namespace Go.Proofs.Ytajmbafljncjcaa.PStageOver
open Go.RowKit Go.Proofs.YtajmbafljncjcaaW.PrintWords Go.Proofs.YtajmbafljncjcaaW.PrintLast Go.Proofs.YtajmbafljncjcaaW.PrintMore Go.Proofs.Ytajmbafljncjcaa.Stage Go.Proofs.Ytajmbafljncjcaa.Mp
set_option linter.unusedVariables false
set_option linter.unusedSimpArgs false

/-- A table and the rows that it says. -/
structure Tbl (w : World) (v : Option Addr) (q : List (Nat × Nat × Nat)) (A : Option Addr) (n c : Nat) : Prop where
  len : q.length = n
  han : Han w v (sayQ q)
  rise : RiseN 0 q
  few : q.length ≤ 1114112
  cap : q.length ≤ c
  mem : Kd.C k30 w A q.length (q.map toS)
theorem Tbl.below {w w1 : World} {v : Option Addr} {q : List (Nat × Nat × Nat)} {A : Option Addr} {n c : Nat} (h : Tbl w v q A n c) (hb : Below w.heap.size w w1) : Tbl w1 v q A n c :=
  ⟨h.len, h.han.below hb, h.rise, h.few, h.cap, Kd.C_below h.mem hb⟩
theorem tbl_nil (w : World) : Tbl w none [] none 0 0 :=
  ⟨rfl, .inl ⟨rfl, fun _ _ => rfl⟩, trivial, Nat.zero_le _, Nat.le_refl _, rfl, Nat.zero_le _, fun hp => absurd hp (Nat.lt_irrefl 0)⟩

def Built2 (w : World) (l : List S40) (e : Ending) (w' : World) : Prop :=
  Below w.heap.size w w' ∧ ∃ (v : Option Addr) (A : Option Addr) (n c : Nat) (is : Bool), e = .returned (.tuple #[.pointer v, .slice A n c, .bool is, .bool true]) ∧
    (is = true → ∃ q, Tbl w' v q A n c ∧ l.map ofV = q.map toS ∧ q = natR (l.map tri) ∧ checkR (l.map tri) = (0, 0) ∧ ∃ b, v = some ⟨b, 0, none⟩) ∧ (is = false → v = none ∧ (checkR (l.map tri)).2 ≠ 0)
theorem built2_calls (w : World) (A0 : Option Addr) (c0 : Nat) (l : List S40) (hC : Kd.C k40 w A0 l.length l) (hc0 : l.length ≤ c0) (hf : Fits l) (hl : l.length ≤ 1048576) :
    Calls Try.prog 14 #[.slice A0 l.length c0] w (Built2 w l) := by
  refine (built_calls w A0 c0 l hC hc0 hf hl).mono ?_
  rintro e w1 ⟨hb1, v, vr, rfl, hR, hyes, hno⟩
  obtain ⟨A4, c4, rfl, hl4, hC4⟩ := Kd.R_reads hR
  refine ⟨hb1, v, A4, _, c4, _, rfl, fun he => ?_, fun he => ?_⟩
  · have he := of_decide_eq_true he
    obtain ⟨b, rfl, ht⟩ := hyes he
    obtain ⟨h0, hlen, hrise, hpos⟩ := checkR_ok he
    have e1 := natR_tri hpos
    refine ⟨natR (l.map tri), ⟨?_, .inr ⟨b, rfl, ht⟩, hrise, ?_, ?_, ?_⟩, e1, rfl, h0, b, rfl⟩
    · rw [e1, List.length_map]
    · rw [natR_len]; omega
    · rw [e1, List.length_map] at hl4; exact hl4
    · rw [e1, List.length_map] at hC4; exact hC4
  · have he := of_decide_eq_false he
    exact ⟨hno he, he⟩

/-- The rows of which a law speaks: those of a table, none where there is none. -/
def RowsOf (w : World) (is : Bool) (v A4 : Option Addr) (n4 c4 : Nat) (q : List (Nat × Nat × Nat)) (A : Option Addr) (n c : Nat) : Prop :=
  Tbl w v q A n c ∧ ((is = true ∧ A = A4 ∧ n = n4 ∧ c = c4) ∨ (is = false ∧ v = none ∧ A = none ∧ n = 0 ∧ c = 0))
theorem Built2.rows {w w1 : World} {l : List S40} {e : Ending} (h : Built2 w l e w1) :
    Below w.heap.size w w1 ∧ ∃ (v : Option Addr) (A4 : Option Addr) (n4 c4 : Nat) (is : Bool), e = .returned (.tuple #[.pointer v, .slice A4 n4 c4, .bool is, .bool true]) ∧ ∃ q A n c, RowsOf w1 is v A4 n4 c4 q A n c := by
  obtain ⟨hb, v, A4, n4, c4, is, rfl, hyes, hno⟩ := h
  refine ⟨hb, v, A4, n4, c4, is, rfl, ?_⟩
  cases is with
  | true => obtain ⟨q, h2, _⟩ := hyes rfl; exact ⟨q, A4, n4, c4, h2, .inl ⟨rfl, rfl, rfl, rfl⟩⟩
  | false => obtain ⟨rfl, _⟩ := hno rfl; exact ⟨[], none, 0, 0, tbl_nil _, .inr ⟨rfl, rfl, rfl, rfl, rfl⟩⟩

end Go.Proofs.Ytajmbafljncjcaa.PStageOver

/-! ### LTwo: The laws' two: two tables and their rows. -/
namespace Go.Proofs.Ytajmbafljncjcaa.PStageOver
open Go.RowKit Go.Proofs.YtajmbafljncjcaaW.PrintWords Go.Proofs.YtajmbafljncjcaaW.PrintLast Go.Proofs.YtajmbafljncjcaaW.PrintMore Go.Proofs.Ytajmbafljncjcaa.Stage Go.Proofs.Ytajmbafljncjcaa.Mp
set_option linter.unusedVariables false
set_option linter.unusedSimpArgs false

theorem results_tmp5 {fn : Func} {t u v x y : Tmp} (h : fn.results = #[.tmp t, .tmp u, .tmp v, .tmp x, .tmp y]) (tmps : Array Value) (P : Program) (w : World) :
    (results fn tmps).run P w = .ok (.tuple #[tmps.getD t undef, tmps.getD u undef, tmps.getD v undef, tmps.getD x undef, tmps.getD y undef]) w := by
  simp [results, h]
def TwoPost (w : World) (e : Ending) (w' : World) : Prop := Below w.heap.size w w' ∧ ∃ (va vb : Option Addr) (qa qb : List (Nat × Nat × Nat)) (Aa Ab : Option Addr) (na ca nb cb : Nat),
  e = .returned (.tuple #[.pointer va, .pointer vb, .slice Aa na ca, .slice Ab nb cb, .bool true]) ∧ Tbl w' va qa Aa na ca ∧ Tbl w' vb qb Ab nb cb
set_option maxRecDepth 100000 in
theorem ltwo_calls (w : World) (A0 : Option Addr) (c0 : Nat) (l : List S40) (hC : Kd.C k40 w A0 l.length l) (hc0 : l.length ≤ c0) (hf : Fits l) (hl : l.length ≤ 1048576)
    (B0 : Option Addr) (d0 : Nat) (m : List S40) (hD : Kd.C k40 w B0 m.length m) (hd0 : m.length ≤ d0) (hmf : Fits m) (hm : m.length ≤ 1048576) :
    Calls Try.prog 39 #[.slice A0 l.length c0, .slice B0 m.length d0] w (TwoPost w) := by
  have HBu := Aside0.mk (built2_calls w A0 c0 l hC hc0 hf hl)
  have HBv := Aside0.mk (fun (W : World) (h : Below w.heap.size w W) => built2_calls W B0 d0 m (Kd.C_below hD h) hd0 hmf hm)
  clear hC hf hD hmf
  go_enter Try.func39, Try.ntmps39
  go_wp2_with fail
  refine HBu.out.mono ?_
  intro e w1 hbu
  obtain ⟨hb1, v, A4, n4, c4, is, rfl, q, A, n, c, hT, hrow⟩ := hbu.rows
  have HB1 := Aside0.mk hb1
  have HT := Aside0.mk hT
  have HROW := Aside0.mk hrow
  have HBw := Aside0.mk (HBv.out w1 hb1)
  clear hbu hb1 hT hrow HBu HBv
  go_wp2_with fail
  refine HBw.out.mono ?_
  intro e w2 hbu
  obtain ⟨hb2, v', A4', n4', c4', is', rfl, q', A', n', c', hT', hrow'⟩ := hbu.rows
  have HF := Aside0.mk (show ∀ (e : Ending), e = .returned (.tuple #[.pointer v, .pointer v', .slice A n c, .slice A' n' c', .bool true]) → TwoPost w e w2 from fun e he => ⟨HB1.out.trans (hb2.mono HB1.out.size), v, v', q, q', A, A', n, c, n', c', he, HT.out.below hb2, hT'⟩)
  have hrow := HROW.out
  clear hbu hb2 hT' HBw HT HB1 HROW
  rcases hrow with ⟨rfl, rfl, rfl, rfl⟩ | ⟨rfl, rfl, rfl, rfl, rfl⟩
  all_goals
    rcases hrow' with ⟨rfl, rfl, rfl, rfl⟩ | ⟨rfl, rfl, rfl, rfl, rfl⟩
    all_goals
      go_wp2_with fail
      ((try simp only [Exit.inBlock, Exit.then]); refine bodyPost_ret (results_tmp5 rfl _ _ _) rfl ?_)
      exact HF.out _ rfl

end Go.Proofs.Ytajmbafljncjcaa.PStageOver
