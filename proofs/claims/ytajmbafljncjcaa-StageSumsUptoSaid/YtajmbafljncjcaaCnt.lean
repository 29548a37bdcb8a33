/- counts: of how many code points each thing is said. -/
import Derived.Test.YtajmbafljncjcaaStrP
import Derived.Test.YtajmbafljncjcaaMpB
namespace Go.Proofs.Ytajmbafljncjcaa.Stage
open Go.RowKit Go.Proofs.YtajmbafljncjcaaW.PrintWords Go.Proofs.YtajmbafljncjcaaW.PrintLast Go.Proofs.YtajmbafljncjcaaW.PrintMore Go.Proofs.Ytajmbafljncjcaa.Mp
set_option linter.unusedVariables false
set_option linter.unusedSimpArgs false

def prV (n : Nat) : Value := .agg #[.int .i64 (hiZ n), .int .i64 (loZ n)]
def evI (m : Nat) : Value := .int .i64 (m : Int)
theorem keyP : KeyOk Try.prog 126 prV (fun _ => True) := by
  have h := nats_ok (P := Try.prog) (t := 126) (e := 3) (n := 2) (k := .i64) Try.underlying126 Try.underlying3 (sizeOf_run size_int)
  exact ⟨fun w em a _ => h.chk w em (prL a) rfl, fun w a b _ _ => by
    have := h.eq w (prL a) (prL b) rfl rfl
    rw [prL_iff] at this
    exact this, fun a _ => h.same (prL a) rfl, by
    obtain ⟨d, hd, hs⟩ := h.und
    refine ⟨d, hd, fun a b _ _ => ?_⟩
    have := hs (prL a) (prL b) rfl rfl
    rw [prL_iff] at this
    exact this⟩
/-- An entry that is added to. -/
def addK (n m : Nat) (l : List (Nat × Nat)) : List (Nat × Nat) := put n ((at? n l).getD 0 + m) l
theorem place_put {a : Nat} {v : Nat} : ∀ (l : List (Nat × Nat)), at? a (put a v l) = some v := by
  intro l
  unfold put at?
  cases h : place a l with
  | some j =>
    obtain ⟨p, hj, hp⟩ := place_lt h
    have hjl : j < l.length := (List.getElem?_eq_some_iff.1 hj).1
    have : place a (l.set j (a, v)) = some j := by
      clear hj hp p
      induction l generalizing j with
      | nil => simp [place] at h
      | cons q l ih =>
        rw [place] at h
        split at h
        · rename_i he
          simp only [Option.some.injEq] at h
          subst h
          simp [place]
        · rename_i he
          cases hpl : place a l with
          | none => rw [hpl] at h; simp at h
          | some k =>
            rw [hpl] at h
            simp only [Option.map_some, Option.some.injEq] at h
            subst h
            rw [List.set_cons_succ, place, if_neg he, ih k hpl (by simpa using hjl)]
            rfl
    simp [this, hjl]
  | none =>
    have : place a (l ++ [(a, v)]) = some l.length := by
      induction l with
      | nil => simp [place]
      | cons q l ih =>
        rw [place] at h
        split at h
        · cases h
        · rename_i he
          have hpl : place a l = none := by
            cases hpl : place a l with
            | none => rfl
            | some k => rw [hpl] at h; simp at h
          rw [List.cons_append, place, if_neg he, ih hpl]
          rfl
    simp [this]
theorem at_put (a v : Nat) (l : List (Nat × Nat)) : at? a (put a v l) = some v := place_put l
theorem zero_int : ∀ w, (zeroValue 3).run Try.prog w = .ok (evI 0) w := fun w => zeroValue_run (by kernel_rfl) w

set_option maxRecDepth 100000 in
set_option maxHeartbeats 1600000 in
theorem cntP_calls (W : World) (Bm M : Nat) (l : List (Nat × Nat)) (a b n : Nat) (hab : a ≤ b) (hb : b ≤ 1114111) (hm : W.cell? ⟨Bm, 0, none⟩ = some (.map (some M))) (hM : MapB prV evI W M l) (hv : (at? n l).getD 0 ≤ 1114112) :
    Calls Try.prog 102 #[.int .i32 (a : Int), .int .i32 (b : Int), .agg #[.int .i64 (hiZ n), .int .i64 (loZ n)], .pointer (some ⟨Bm, 0, none⟩)] W fun e w' => (∃ v, e = .returned v) ∧ ∃ o, w' = setObjAt (W.alloc (.cells #[.int .i64 (hiZ n), .int .i64 (loZ n)] 126)).drew M o ∧ MapB prV evI w' M (addK n (b - a + 1) l) := by
  have hM1 : MapB prV evI (W.alloc (.cells #[.int .i64 (hiZ n), .int .i64 (loZ n)] 126)).drew M l := hM.block (Below.heap_alloc W _ M hM.lt)
  have hm1 : (W.alloc (.cells #[.int .i64 (hiZ n), .int .i64 (loZ n)] 126)).cell? ⟨Bm, 0, none⟩ = some (.map (some M)) := by
    rw [World.cell?_of_block (Below.heap_alloc W _ Bm (World.block_lt_of_cell? _ _ hm))]
    exact hm
  have hk0 : (W.alloc (.cells #[.int .i64 (hiZ n), .int .i64 (loZ n)] 126)).cell? ⟨W.heap.size, 0, none⟩ = some (.int .i64 (hiZ n)) := (blk_new W (prC n) 126).cell 0
  have hk1 : (W.alloc (.cells #[.int .i64 (hiZ n), .int .i64 (loZ n)] 126)).cell? ⟨W.heap.size, 1, none⟩ = some (.int .i64 (loZ n)) := (blk_new W (prC n) 126).cell 1
  obtain ⟨st, o, hE, hM2, hst⟩ := run_entry_add keyP (ev := evI) Try.underlying124 (z := 0) zero_int hM1 (fun _ _ => trivial) n trivial
  obtain ⟨o', hS, hM3⟩ := hst ((at? n l).getD 0 + (b - a + 1))
  have hL := run_lookup1 keyP (ev := evI) Try.underlying124 (z := 0) zero_int hM1.at (fun _ _ => trivial) n trivial
  have hL2 := run_lookup1 keyP (ev := evI) Try.underlying124 (z := 0) zero_int hM2.at (fun _ _ => trivial) n trivial
  rw [show (at? n (put n ((at? n l).getD 0) l)).getD 0 = (at? n l).getD 0 from by rw [at_put]; rfl] at hL2
  simp only [evI, prV] at hL hL2 hE hS
  have HF := Aside0.mk (show MapB prV evI (setObjAt (W.alloc (.cells #[.int .i64 (hiZ n), .int .i64 (loZ n)] 126)).drew M o') M (addK n (b - a + 1) l) from hM3)
  have e1 : IntKind.i32.wrap ((b : Int) - (a : Int)) = ((b - a : Nat) : Int) := by rw [IntWalk.i32_in _ (by omega)]; omega
  have e2 : IntKind.i64.wrap ((b - a : Nat) : Int) = ((b - a : Nat) : Int) := IntWalk.i64_in _ (by omega)
  have e3 : IntKind.i64.wrap (((b - a : Nat) : Int) + 1) = ((b - a + 1 : Nat) : Int) := by rw [IntWalk.i64_in _ (by omega)]; omega
  generalize hvv : (at? n l).getD 0 = v0 at *
  have e4 : IntKind.i64.wrap ((v0 : Int) + ((b - a + 1 : Nat) : Int)) = ((v0 + (b - a + 1) : Nat) : Int) := by rw [IntWalk.i64_in _ (by omega)]; omega
  rw [show ((v0 + (b - a + 1) : Nat) : Int) = (v0 : Int) + (((b - a : Nat) : Int) + 1) by omega] at hS
  clear hM hM1 hM2 hM3 hst hm hvv
  go_enter Try.func102, Try.ntmps102
  go_wp2
  generalize hW1 : W.alloc (.cells #[.int .i64 (hiZ n), .int .i64 (loZ n)] 126) = W1 at *
  go_region
  go_wp2
  go_returns
  exact ⟨⟨_, rfl⟩, o', by rw [hW1], HF.out⟩
end Go.Proofs.Ytajmbafljncjcaa.Stage
