/- The laws' two: two tables and their rows. -/
import Derived.Test.YtajmbafljncjcaaTblAStageOver
namespace Go.Proofs.Ytajmbafljncjcaa.PStageOver
open Go.RowKit Go.Proofs.YtajmbafljncjcaaW.PrintWords Go.Proofs.YtajmbafljncjcaaW.PrintLast Go.Proofs.YtajmbafljncjcaaW.PrintMore Go.Proofs.Ytajmbafljncjcaa.Stage Go.Proofs.Ytajmbafljncjcaa.Mp
set_option linter.unusedVariables false
set_option linter.unusedSimpArgs false

theorem results_tmp5 {fn : Func} {t u v x y : Tmp} (h : fn.results = #[.tmp t, .tmp u, .tmp v, .tmp x, .tmp y]) (tmps : Array Value) (P : Program) (w : World) :
    (results fn tmps).run P w = .ok (.tuple #[tmps.getD t undef, tmps.getD u undef, tmps.getD v undef, tmps.getD x undef, tmps.getD y undef]) w := by
  simp [results, h]
def TwoPost (w : World) (e : Ending) (w' : World) : Prop := Below w.heap.size w w' ∧ ∃ (va vb : Option Addr) (qa qb : List (Nat × Nat × Nat)) (Aa Ab : Option Addr) (na ca nb cb : Nat),
  e = .returned (.tuple #[.pointer va, .pointer vb, .slice Aa na ca, .slice Ab nb cb, .bool true]) ∧ Tbl w' va qa Aa na ca ∧ Tbl w' vb qb Ab nb cb
set_option maxRecDepth 100000 in
theorem ltwo_calls (w : World) (A0 : Option Addr) (c0 : Nat) (l : List S40) (hC : Kd.C k40 w A0 l.length l) (hc0 : l.length ≤ c0) (hf : Fits l) (hl : l.length ≤ 1048576)
    (B0 : Option Addr) (d0 : Nat) (m : List S40) (hD : Kd.C k40 w B0 m.length m) (hd0 : m.length ≤ d0) (hmf : Fits m) (hm : m.length ≤ 1048576) :
    Calls Try.prog 39 #[.slice A0 l.length c0, .slice B0 m.length d0] w (TwoPost w) := by
  have HBu := Aside0.mk (built2_calls w A0 c0 l hC hc0 hf hl)
  have HBv := Aside0.mk (fun (W : World) (h : Below w.heap.size w W) => built2_calls W B0 d0 m (Kd.C_below hD h) hd0 hmf hm)
  clear hC hf hD hmf
  go_enter Try.func39, Try.ntmps39
  go_wp2_with fail
  refine HBu.out.mono ?_
  intro e w1 hbu
  obtain ⟨hb1, v, A4, n4, c4, is, rfl, q, A, n, c, hT, hrow⟩ := hbu.rows
  have HB1 := Aside0.mk hb1
  have HT := Aside0.mk hT
  have HROW := Aside0.mk hrow
  have HBw := Aside0.mk (HBv.out w1 hb1)
  clear hbu hb1 hT hrow HBu HBv
  go_wp2_with fail
  refine HBw.out.mono ?_
  intro e w2 hbu
  obtain ⟨hb2, v', A4', n4', c4', is', rfl, q', A', n', c', hT', hrow'⟩ := hbu.rows
  have HF := Aside0.mk (show ∀ (e : Ending), e = .returned (.tuple #[.pointer v, .pointer v', .slice A n c, .slice A' n' c', .bool true]) → TwoPost w e w2 from fun e he => ⟨HB1.out.trans (hb2.mono HB1.out.size), v, v', q, q', A, A', n, c, n', c', he, HT.out.below hb2, hT'⟩)
  have hrow := HROW.out
  clear hbu hb2 hT' HBw HT HB1 HROW
  rcases hrow with ⟨rfl, rfl, rfl, rfl⟩ | ⟨rfl, rfl, rfl, rfl, rfl⟩
  all_goals
    rcases hrow' with ⟨rfl, rfl, rfl, rfl⟩ | ⟨rfl, rfl, rfl, rfl, rfl⟩
    all_goals
      go_wp2_with fail
      ((try simp only [Exit.inBlock, Exit.then]); refine bodyPost_ret (results_tmp5 rfl _ _ _) rfl ?_)
      exact HF.out _ rfl

end Go.Proofs.Ytajmbafljncjcaa.PStageOver
