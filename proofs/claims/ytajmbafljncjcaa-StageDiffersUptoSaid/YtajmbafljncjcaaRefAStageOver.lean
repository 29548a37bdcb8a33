/- The document's answer, printed, and plain lists: plain, rows, Check. -/
import Derived.Test.YtajmbafljncjcaaPStageOverx1
import Derived.Test.YtajmbafljncjcaaPStageOverx2
import Derived.Test.YtajmbafljncjcaaStD
import Derived.Test.YtajmbafljncjcaaStA
namespace Go.Proofs.Ytajmbafljncjcaa.PStageOver
open Go.RowKit Go.Proofs.YtajmbafljncjcaaW.PrintWords Go.Proofs.YtajmbafljncjcaaW.PrintLast Go.Proofs.YtajmbafljncjcaaW.PrintMore Go.Proofs.Ytajmbafljncjcaa.Stage
set_option linter.unusedVariables false
set_option linter.unusedSimpArgs false

def toS (x : Nat × Nat × Nat) : S30 := ⟨x.1, x.2.1, x.2.2⟩
def ofV (x : S40) : S30 := ⟨x.f0, x.f1, x.f2⟩
def tri (x : S40) : Int × Int × Int := (x.f0, x.f1, x.f2)
/-- The numbers are of their kinds. -/
def Fits (l : List S40) : Prop := ∀ x ∈ l, (-2147483648 ≤ x.f0 ∧ x.f0 ≤ 2147483647) ∧ (-2147483648 ≤ x.f1 ∧ x.f1 ≤ 2147483647)

theorem w64 {a : Int} (h0 : -9223372036854775808 ≤ a) (h1 : a ≤ 9223372036854775807) : wrap64 a = a := by unfold wrap64; omega
theorem rd_map (q : List (Nat × Nat × Nat)) (i : Nat) (h : i < q.length) : rd_T30 (q.map toS) (i : Int) = toS (q.getD i z3) := by
  simp [rd_T30, List.getD_eq_getElem?_getD, List.getElem?_map, List.getElem?_eq_getElem h]
theorem rd_ofV (l : List S40) (i : Nat) (h : i < l.length) : rd_T30 (l.map ofV) (i : Int) = ofV (rd_T40 l (i : Int)) := by
  simp [rd_T30, rd_T40, List.getD_eq_getElem?_getD, List.getElem?_map, List.getElem?_eq_getElem h]
theorem rd_mem (l : List S40) (i : Nat) (h : i < l.length) : rd_T40 l (i : Int) ∈ l := by
  simp only [rd_T40, Int.toNat_natCast, List.getD_eq_getElem?_getD, List.getElem?_eq_getElem h, Option.getD_some]
  exact List.getElem_mem h
theorem take_rd (l : List S40) (i : Nat) (h : i < l.length) : l.take (i + 1) = l.take i ++ [rd_T40 l (i : Int)] := by
  simp only [rd_T40, Int.toNat_natCast, List.getD_eq_getElem?_getD, List.getElem?_eq_getElem h, Option.getD_some]
  exact List.take_succ_eq_append_getElem h

theorem plain_l {l : List S40} (hf : Fits l) (hl : l.length ≤ 1048576) : ∀ (d k i : Nat), i + d = l.length → d < k → posternlaw08_plain.l0 k ((l.take i).map ofV) l (l.length : Int) (i : Int) = some (l.map ofV) := by
  intro d
  induction d with
  | zero =>
    intro k i hi hk
    obtain ⟨k, rfl⟩ : ∃ m, k = m + 1 := ⟨k - 1, by omega⟩
    simp only [posternlaw08_plain.l0]
    rw [if_neg (by omega), List.take_of_length_le (by omega)]
  | succ d ih =>
    intro k i hi hk
    obtain ⟨k, rfl⟩ : ∃ m, k = m + 1 := ⟨k - 1, by omega⟩
    have hlt : i < l.length := by omega
    have hfx := hf _ (rd_mem l i hlt)
    simp only [posternlaw08_plain.l0]
    rw [if_pos (by omega), if_pos (by omega), if_pos (by omega), if_pos (by rw [List.length_map, List.length_take]; omega), w64 (by omega) (by omega), w64 (by omega) (by omega), w64 (a := (i : Int) + 1) (by omega) (by omega)]
    have e := ih k (i + 1) (by omega) (by omega)
    rw [take_rd l i hlt, List.map_append] at e
    rw [show ((i : Int) + 1) = ((i + 1 : Nat) : Int) from rfl]
    exact e
theorem plain_f {l : List S40} (hf : Fits l) (hl : l.length ≤ 1048576) : posternlaw08_plain.f (l.length + 1) l = some (l.map ofV) := by
  have h := plain_l hf hl l.length (l.length + 1) 0 (by omega) (by omega)
  rw [List.take_zero, List.map_nil, Int.natCast_zero] at h
  unfold posternlaw08_plain.f
  exact h

theorem rows_l {l : List S40} (hf : Fits l) (hl : l.length ≤ 4194304) : ∀ (d k i : Nat), i + d = l.length → d < k → posternlaw08_rows.l0 k l (l.map ofV) (l.length : Int) (i : Int) = some true := by
  intro d
  induction d with
  | zero =>
    intro k i hi hk
    obtain ⟨k, rfl⟩ : ∃ m, k = m + 1 := ⟨k - 1, by omega⟩
    simp only [posternlaw08_rows.l0]
    rw [if_neg (by omega)]
  | succ d ih =>
    intro k i hi hk
    obtain ⟨k, rfl⟩ : ∃ m, k = m + 1 := ⟨k - 1, by omega⟩
    have hlt : i < l.length := by omega
    have hfx := hf _ (rd_mem l i hlt)
    simp only [posternlaw08_rows.l0]
    rw [rd_ofV l i hlt, w64 (by omega) (by omega), w64 (by omega) (by omega), if_pos (by omega), if_pos (by omega), if_pos (by omega), if_pos (by rw [List.length_map]; omega), if_pos (show (rd_T40 l (i : Int)).f0 = (ofV (rd_T40 l (i : Int))).f0 from rfl), if_pos (show (rd_T40 l (i : Int)).f1 = (ofV (rd_T40 l (i : Int))).f1 from rfl), if_pos (show (rd_T40 l (i : Int)).f2 = (ofV (rd_T40 l (i : Int))).f2 from rfl), w64 (a := (i : Int) + 1) (by omega) (by omega)]
    exact ih k (i + 1) (by omega) (by omega)
theorem rows_f {l : List S40} (hf : Fits l) (hl : l.length ≤ 4194304) : posternlaw08_rows.f (l.length + 1) l (l.map ofV) = some true := by
  unfold posternlaw08_rows.f
  rw [if_pos (by rw [List.length_map])]
  have h := rows_l hf hl l.length (l.length + 1) 0 (by omega) (by omega)
  rw [Int.natCast_zero] at h
  exact h

theorem chk_tri (last i : Int) (x : S40) (t : List (Int × Int × Int)) : chk last i (tri x :: t) = if x.f0 ≤ last ∨ x.f1 < x.f0 ∨ 1114111 < x.f1 then (i, 80) else if x.f2 < 0 ∨ 65535 < x.f2 then (i, 81) else chk x.f1 (i + 1) t := rfl
theorem check_l {l : List S40} (hl : l.length ≤ 65536) : ∀ (d k i : Nat) (last : Int), i + d = l.length → 2 * d < k → (i = 0 ∧ last = -1 ∨ 0 < i ∧ 0 ≤ last ∧ last = (rd_T40 l ((i - 1 : Nat) : Int)).f1) →
    posternref08_Check.l0 k (l.map ofV) (l.map ofV) (l.length : Int) (i : Int) = some (chk last i ((l.drop i).map tri)) := by
  intro d
  induction d with
  | zero =>
    intro k i last hi hk hlast
    obtain ⟨k, rfl⟩ : ∃ m, k = m + 1 := ⟨k - 1, by omega⟩
    simp only [posternref08_Check.l0]
    rw [if_neg (by omega), List.drop_of_length_le (by omega)]
    rfl
  | succ d ih =>
    intro k i last hi hk hlast
    obtain ⟨k, rfl⟩ : ∃ m, k = m + 2 := ⟨k - 2, by omega⟩
    have hlt : i < l.length := by omega
    have hd : l.drop i = rd_T40 l (i : Int) :: l.drop (i + 1) := by
      rw [List.drop_eq_getElem_cons hlt]
      simp [rd_T40, List.getD_eq_getElem?_getD, List.getElem?_eq_getElem hlt]
    have hprev : 0 < i → rd_T30 (l.map ofV) (wrap64 ((i : Int) - 1)) = ofV (rd_T40 l ((i - 1 : Nat) : Int)) := fun h0 => by
      rw [w64 (by omega) (by omega), show ((i : Int) - 1) = ((i - 1 : Nat) : Int) by omega, rd_ofV l (i - 1) (by omega)]
    have hih := fun h2 => ih k (i + 1) (rd_T40 l (i : Int)).f1 (by omega) (by omega) (.inr ⟨by omega, h2, by simp⟩)
    simp only [posternref08_Check.l0, posternref08_Check.j1, List.length_map]
    rw [hd, List.map_cons, rd_ofV l i hlt]
    have hpw : 0 < i → (wrap64 ((i : Int) - 1) = (i : Int) - 1) := fun h0 => w64 (by omega) (by omega)
    generalize rd_T40 l (i : Int) = x at *
    have e0 : (ofV x).f0 = x.f0 := rfl
    have e1 : (ofV x).f1 = x.f1 := rfl
    have e2 : (ofV x).f2 = x.f2 := rfl
    generalize ofV x = y at *
    rw [chk_tri, if_pos (by omega), if_pos (by omega), if_pos (by omega), e0, e1, e2]
    by_cases c1 : x.f0 < 0
    · rw [if_pos c1, if_pos trivial, if_pos (.inl (by omega))]
    · rw [if_neg c1]
      by_cases c2 : x.f0 > x.f1
      · rw [if_pos c2, if_pos trivial, if_pos (.inr (.inl (by omega)))]
      · rw [if_neg c2]
        by_cases c3 : x.f1 > 1114111
        · rw [if_pos c3, if_pos trivial, if_pos (.inr (.inr (by omega)))]
        · rw [if_neg c3]
          have hrest : ∀ b : Bool, (b = true ↔ x.f0 ≤ last) → (if b = true then (some ((i : Int), (80 : Int))) else (if x.f2 < 0 then (some ((i : Int), (81 : Int))) else (if x.f2 > 65535 then (some ((i : Int), (81 : Int))) else (posternref08_Check.l0 k (l.map ofV) (l.map ofV) (l.length : Int) (wrap64 ((i : Int) + 1)))))) =
              some (if x.f0 ≤ last ∨ x.f1 < x.f0 ∨ 1114111 < x.f1 then ((i : Int), (80 : Int)) else if x.f2 < 0 ∨ 65535 < x.f2 then ((i : Int), 81) else chk x.f1 ((i : Int) + 1) ((l.drop (i + 1)).map tri)) := by
            intro b hb
            by_cases c4 : x.f0 ≤ last
            · rw [if_pos (hb.2 c4), if_pos (.inl c4)]
            · rw [if_neg (show ¬ (b = true) from fun h => c4 (hb.1 h)), if_neg (show ¬ (x.f0 ≤ last ∨ x.f1 < x.f0 ∨ 1114111 < x.f1) by omega)]
              by_cases c5 : x.f2 < 0
              · rw [if_pos c5, if_pos (.inl c5)]
              · rw [if_neg c5]
                by_cases c6 : x.f2 > 65535
                · rw [if_pos c6, if_pos (.inr (by omega))]
                · rw [if_neg c6, if_neg (show ¬ (x.f2 < 0 ∨ 65535 < x.f2) by omega), w64 (by omega) (by omega), show ((i : Int) + 1) = ((i + 1 : Nat) : Int) from rfl]
                  exact hih (by omega)
          rcases Nat.eq_zero_or_pos i with h0 | h0
          · have hl1 : last = -1 := by omega
            rw [if_neg (by omega)]
            exact hrest false (by simp; omega)
          · have hl1 := hlast.resolve_left (by omega)
            rw [if_pos (by omega), hprev h0, hpw h0, if_pos (by omega), if_pos (by omega)]
            exact hrest _ (by rw [decide_eq_true_eq, hl1.2.2]; exact Iff.rfl)
theorem check_f (l : List S40) : posternref08_Check.f (2 * l.length + 1) (l.map ofV) = some (checkR (l.map tri)) := by
  unfold posternref08_Check.f checkR
  rw [List.length_map, List.length_map]
  by_cases h : 65536 < l.length
  · rw [if_pos (by omega), if_pos h]
  · rw [if_neg (by omega), if_neg h]
    have h := check_l (l := l) (by omega) l.length (2 * l.length + 1) 0 (-1) (by omega) (by omega) (.inl ⟨rfl, rfl⟩)
    rw [Int.natCast_zero, List.drop_zero] at h
    exact h

theorem natR_tri {l : List S40} (h : ∀ r ∈ l.map tri, 0 ≤ r.1 ∧ 0 ≤ r.2.1 ∧ 0 ≤ r.2.2) : l.map ofV = (natR (l.map tri)).map toS := by
  simp only [natR, List.map_map]
  refine List.map_congr_left fun x hx => ?_
  have := h (tri x) (List.mem_map_of_mem hx)
  simp only [tri] at this
  simp only [Function.comp, toS, tri, ofV]
  rw [Int.toNat_of_nonneg this.1, Int.toNat_of_nonneg this.2.1, Int.toNat_of_nonneg this.2.2]

end Go.Proofs.Ytajmbafljncjcaa.PStageOver
