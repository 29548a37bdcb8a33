/- The document's answer, printed, and plain lists: Look, Least, Count, spans. The law's spans: what the printed function answers. The document's Count: what the printed function answers. -/
import Derived.Test.YtajmbafljncjcaaSetCStageOver
import Derived.Test.YtajmbafljncjcaaPStageOverx5
import Derived.Test.YtajmbafljncjcaaPStageOverx7
/-! ### RefB: The document's answer, printed, and plain lists: Look, Least, Count, spans. -/
namespace Go.Proofs.Ytajmbafljncjcaa.PStageOver
open Go.RowKit Go.Proofs.YtajmbafljncjcaaW.PrintWords Go.Proofs.YtajmbafljncjcaaW.PrintLast Go.Proofs.YtajmbafljncjcaaW.PrintMore Go.Proofs.Ytajmbafljncjcaa.Stage
set_option linter.unusedVariables false
set_option linter.unusedSimpArgs false


theorem drop_q (q : List (Nat × Nat × Nat)) (i : Nat) (h : i < q.length) : q.drop i = q.getD i z3 :: q.drop (i + 1) := by
  rw [List.drop_eq_getElem_cons h]
  simp [List.getD_eq_getElem?_getD, List.getElem?_eq_getElem h]
theorem take_q (q : List (Nat × Nat × Nat)) (i : Nat) (h : i < q.length) : q.take (i + 1) = q.take i ++ [q.getD i z3] := by
  simp only [List.getD_eq_getElem?_getD, List.getElem?_eq_getElem h, Option.getD_some]
  exact List.take_succ_eq_append_getElem h

theorem runs_fk {q : List (Nat × Nat × Nat)} (hl : q.length ≤ 1114112) (hr : RiseN 0 q) (k : Nat) (hk : q.length < k) : posternref08_Runs.f k (q.map toS) = some ((runsN [] 0 q).map toS) := by
  unfold posternref08_Runs.f
  rw [List.length_map]
  have h := runs_l hl q.length k 0 0 [] (by omega) (by omega) (by simp) (by simpa using hr)
  rw [Int.natCast_zero, List.drop_zero, List.map_nil] at h
  exact h

theorem runsN_len : ∀ (l out : List (Nat × Nat × Nat)) (next : Nat), (runsN out next l).length ≤ out.length + 2 * l.length + 1
  | [], out, next => by
    unfold runsN
    split
    · have := addN_len out (next, 1114111, 0); simp only [List.length_nil]; omega
    · simp only [List.length_nil]; omega
  | x :: l, out, next => by
    unfold runsN
    have h1 := addN_len out (next, x.1 - 1, 0)
    have h2 := addN_len (addN out (next, x.1 - 1, 0)) x
    have h3 := addN_len out x
    split
    · have := runsN_len l (addN (addN out (next, x.1 - 1, 0)) x) (x.2.1 + 1); simp only [List.length_cons]; omega
    · have := runsN_len l (addN out x) (x.2.1 + 1); simp only [List.length_cons]; omega

/-- Rows out of a table's stretches are the document's. -/
theorem rows_fq {q : List (Nat × Nat × Nat)} (hl : q.length ≤ 4194304) (h : ∀ x ∈ q, x.1 ≤ 1114111 ∧ x.2.1 ≤ 1114111) : posternlaw08_rows.f (q.length + 1) (q.map toV) (q.map toS) = some true := by
  have e : (q.map toV).map ofV = q.map toS := by rw [List.map_map]; rfl
  have hf : Fits (q.map toV) := fun x hx => by
    obtain ⟨y, hy, rfl⟩ := List.mem_map.1 hx
    have := h y hy
    exact ⟨⟨by simp only [toV]; omega, by simp only [toV]; omega⟩, ⟨by simp only [toV]; omega, by simp only [toV]; omega⟩⟩
  have := rows_f hf (by rw [List.length_map]; exact hl)
  rw [e, List.length_map] at this
  exact this

end Go.Proofs.Ytajmbafljncjcaa.PStageOver

/-! ### RefS: The law's spans: what the printed function answers. -/
namespace Go.Proofs.Ytajmbafljncjcaa.PStageOver
open Go.RowKit Go.Proofs.YtajmbafljncjcaaW.PrintWords Go.Proofs.YtajmbafljncjcaaW.PrintLast Go.Proofs.YtajmbafljncjcaaW.PrintMore Go.Proofs.Ytajmbafljncjcaa.Stage
set_option linter.unusedVariables false
set_option linter.unusedSimpArgs false

theorem rd_P (q : List (Nat × Nat × Nat)) (i : Nat) (h : i < q.length) : rd_T47 (q.map toP) (i : Int) = toP (q.getD i z3) := by
  simp [rd_T47, List.getD_eq_getElem?_getD, List.getElem?_map, List.getElem?_eq_getElem h]
theorem spans_l {q : List (Nat × Nat × Nat)} (hl : q.length ≤ 4194304) (n : Int) (hb : ∀ x ∈ q, x.1 ≤ x.2.1 ∧ x.2.1 < 1114112) : ∀ (d k i : Nat), i + d = q.length → d < k →
    posternlaw08_spans.l0 k ((ofN n q).map toP) n ((ofN n (q.take i)).length : Int) (q.map toS) (q.length : Int) (i : Int) = some true := by
  intro d
  induction d with
  | zero =>
    intro k i hi hk
    obtain ⟨k, rfl⟩ : ∃ m, k = m + 1 := ⟨k - 1, by omega⟩
    simp only [posternlaw08_spans.l0]
    rw [if_neg (by omega), List.take_of_length_le (by omega)]
    simp
  | succ d ih =>
    intro k i hi hk
    obtain ⟨k, rfl⟩ : ∃ m, k = m + 1 := ⟨k - 1, by omega⟩
    have hlt : i < q.length := by omega
    have hread := rd_map q i hlt
    have hmem : q.getD i z3 ∈ q := by
      rw [List.getD_eq_getElem?_getD, List.getElem?_eq_getElem hlt]; exact List.getElem_mem hlt
    obtain ⟨t2, t3⟩ := hb _ hmem
    have hih := ih k (i + 1) (by omega) (by omega)
    have hsplit : q = q.take i ++ (q.getD i z3 :: q.drop (i + 1)) := by rw [← drop_q q i hlt, List.take_append_drop]
    have hn := ofN_len n (q.take i)
    have hn2 : (q.take i).length ≤ q.length := by rw [List.length_take]; omega
    have hsel : ofN n q = ofN n (q.take i) ++ ofN n (q.getD i z3 :: q.drop (i + 1)) := by
      have : ofN n q = ofN n (q.take i ++ (q.getD i z3 :: q.drop (i + 1))) := congrArg (ofN n) hsplit
      rw [this]
      unfold ofN
      rw [List.filter_append]
    rw [take_q q i hlt, ofN_snoc] at hih
    simp only [posternlaw08_spans.l0, List.length_map]
    rw [hread]
    have c1 : (i : Int) < (q.length : Int) := by omega
    have c2 : (0 : Int) ≤ (i : Int) := by omega
    have h0 : (toS (q.getD i z3)).f0 = ((q.getD i z3).1 : Int) := rfl
    have h1 : (toS (q.getD i z3)).f1 = ((q.getD i z3).2.1 : Int) := rfl
    have h2 : (toS (q.getD i z3)).f2 = ((q.getD i z3).2.2 : Int) := rfl
    have e1 := Aside0.mk (show wrap64 ((i : Int) + 1) = ((i + 1 : Nat) : Int) by rw [w64 (by omega) (by omega)]; omega)
    simp only [if_pos c1, if_pos c2]
    rw [h0, h1, h2, e1.out]
    by_cases a : ((q.getD i z3).2.2 : Int) = n
    · rw [if_pos a] at hih
      have hlen2 : (ofN n q).length = (ofN n (q.take i)).length + (1 + (ofN n (q.drop (i + 1))).length) := by
        rw [hsel, List.length_append]
        unfold ofN
        rw [List.filter_cons_of_pos (by simpa using a), List.length_cons]
        omega
      have hat : (ofN n q).getD (ofN n (q.take i)).length z3 = q.getD i z3 := by
        rw [hsel, List.getD_eq_getElem?_getD, List.getElem?_append_right (Nat.le_refl _), Nat.sub_self]
        unfold ofN
        rw [List.filter_cons_of_pos (by simpa using a)]
        rfl
      have hrp := rd_P (ofN n q) (ofN n (q.take i)).length (by omega)
      rw [hat] at hrp
      rw [hrp]
      have hp0 : (toP (q.getD i z3)).f0 = ((q.getD i z3).1 : Int) := rfl
      have hp1 : (toP (q.getD i z3)).f1 = ((q.getD i z3).2.1 : Int) := rfl
      rw [List.length_append, List.length_singleton] at hih
      generalize (ofN n (q.take i)).length = j at *
      have e2 := Aside0.mk (show wrap64 ((j : Int) + 1) = ((j + 1 : Nat) : Int) by rw [w64 (by omega) (by omega)]; omega)
      have d1 : ¬ (j : Int) ≥ ((ofN n q).length : Int) := by omega
      have d2 : (0 : Int) ≤ (j : Int) := by omega
      have d3 : (j : Int) < ((ofN n q).length : Int) := by omega
      rw [if_pos a, if_neg d1, if_pos d2, if_pos d3, hp0, hp1, w64 (by omega) (by omega), if_pos rfl, w64 (by omega) (by omega), if_pos rfl, e2.out]
      exact hih
    · rw [if_neg a, List.append_nil] at hih
      rw [if_neg a]
      exact hih
theorem spans_fb {q : List (Nat × Nat × Nat)} (hl : q.length ≤ 4194304) (n : Int) (hb : ∀ x ∈ q, x.1 ≤ x.2.1 ∧ x.2.1 < 1114112) : posternlaw08_spans.f (q.length + 1) ((ofN n q).map toP) (q.map toS) n = some true := by
  unfold posternlaw08_spans.f
  rw [List.length_map]
  have h := spans_l hl n hb q.length (q.length + 1) 0 (by omega) (by omega)
  rw [Int.natCast_zero, List.take_zero] at h
  exact h
theorem spans_f {q : List (Nat × Nat × Nat)} (hl : q.length ≤ 4194304) (n : Int) {say : Nat → Nat} (ht : Til say 1114112 0 q) : posternlaw08_spans.f (q.length + 1) ((ofN n q).map toP) (q.map toS) n = some true := spans_fb hl n (fun x hx => ⟨(ht.mem x hx).2.1, (ht.mem x hx).2.2.1⟩)

end Go.Proofs.Ytajmbafljncjcaa.PStageOver

/-! ### RefN: The document's Count: what the printed function answers. -/
namespace Go.Proofs.Ytajmbafljncjcaa.PStageOver
open Go.RowKit Go.Proofs.YtajmbafljncjcaaW.PrintWords Go.Proofs.YtajmbafljncjcaaW.PrintLast Go.Proofs.YtajmbafljncjcaaW.PrintMore Go.Proofs.Ytajmbafljncjcaa.Stage
set_option linter.unusedVariables false
set_option linter.unusedSimpArgs false

theorem count_l {q : List (Nat × Nat × Nat)} (hl : q.length ≤ 4194304) (n : Int) {say : Nat → Nat} (ht : Til say 1114112 0 q) : ∀ (d k i m : Nat), i + d = q.length → d < k → m + manyN n (q.drop i) ≤ 1114112 → posternref08_Count.l0 k n (m : Int) (q.map toS) (q.length : Int) (i : Int) = some ((m + manyN n (q.drop i) : Nat) : Int) := by
  intro d
  induction d with
  | zero =>
    intro k i m hi hk hm
    obtain ⟨k, rfl⟩ : ∃ m, k = m + 1 := ⟨k - 1, by omega⟩
    simp only [posternref08_Count.l0]
    rw [if_neg (by omega), List.drop_of_length_le (by omega)]
    rfl
  | succ d ih =>
    intro k i m hi hk hm
    obtain ⟨k, rfl⟩ : ∃ m, k = m + 1 := ⟨k - 1, by omega⟩
    have hlt : i < q.length := by omega
    have hread := rd_map q i hlt
    have hmem : q.getD i z3 ∈ q := by
      rw [List.getD_eq_getElem?_getD, List.getElem?_eq_getElem hlt]; exact List.getElem_mem hlt
    obtain ⟨_, t2, t3, _⟩ := ht.mem _ hmem
    rw [drop_q q i hlt] at hm ⊢
    simp only [posternref08_Count.l0, List.length_map]
    rw [hread]
    generalize q.getD i z3 = x at hm t2 t3 ⊢
    have h0 : (toS x).f0 = (x.1 : Int) := rfl
    have h1 : (toS x).f1 = (x.2.1 : Int) := rfl
    have h2 : (toS x).f2 = (x.2.2 : Int) := rfl
    have c1 : (i : Int) < (q.length : Int) := by omega
    have c2 : (0 : Int) ≤ (i : Int) := by omega
    have e1 := Aside0.mk (show wrap64 ((i : Int) + 1) = ((i + 1 : Nat) : Int) by rw [w64 (by omega) (by omega)]; omega)
    simp only [if_pos c1, if_pos c2]
    rw [h0, h1, h2, e1.out]
    simp only [manyN] at hm ⊢
    by_cases a : (x.2.2 : Int) = n
    · rw [if_pos a] at hm ⊢
      rw [if_pos a]
      have e3 : wrap64 ((m : Int) + wrap64 (wrap64 ((x.2.1 : Int) - (x.1 : Int)) + 1)) = ((m + (x.2.1 - x.1 + 1) : Nat) : Int) := by
        have e4 : wrap64 ((x.2.1 : Int) - (x.1 : Int)) = ((x.2.1 - x.1 : Nat) : Int) := by rw [w64 (by omega) (by omega)]; omega
        rw [e4]
        clear e4
        have e5 : wrap64 (((x.2.1 - x.1 : Nat) : Int) + 1) = ((x.2.1 - x.1 + 1 : Nat) : Int) := by rw [w64 (by omega) (by omega)]; omega
        rw [e5]
        clear e5
        rw [w64 (by omega) (by omega)]; omega
      rw [e3, ih k (i + 1) (m + (x.2.1 - x.1 + 1)) (by omega) (by omega) (by omega), Nat.add_assoc]
    · rw [if_neg a] at hm ⊢
      rw [if_neg a, ih k (i + 1) m (by omega) (by omega) (by omega), Nat.zero_add]
theorem count_f {q : List (Nat × Nat × Nat)} (hl : q.length ≤ 1114112) (hr : RiseN 0 q) (n : Int) : posternref08_Count.f (2 * q.length + 3) (q.map toS) n = some ((manyN n (runsN [] 0 q) : Nat) : Int) := by
  unfold posternref08_Count.f
  have hlen := runsN_len q [] 0
  simp only [List.length_nil] at hlen
  have hle := manyN_le n (runsN_ok hr)
  rw [runs_fk hl hr _ (by omega), Option.bind_some, List.length_map]
  have h := count_l (q := runsN [] 0 q) (by omega) n (runsN_ok hr) (runsN [] 0 q).length (2 * q.length + 3) 0 0 (by omega) (by omega) (by rw [List.drop_zero]; omega)
  rw [Int.natCast_zero, List.drop_zero, Nat.zero_add] at h
  exact h

end Go.Proofs.Ytajmbafljncjcaa.PStageOver
