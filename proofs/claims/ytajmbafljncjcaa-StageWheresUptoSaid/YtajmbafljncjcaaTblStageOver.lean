/- A table and its rows in one word; lists of rows that may differ; what built comes to. -/
import Derived.Test.YtajmbafljncjcaaStandsStageOver
namespace Go.Proofs.Ytajmbafljncjcaa.PStageOver
open Go.RowKit Go.Proofs.YtajmbafljncjcaaW.PrintWords Go.Proofs.YtajmbafljncjcaaW.PrintLast Go.Proofs.YtajmbafljncjcaaW.PrintMore Go.Proofs.Ytajmbafljncjcaa.Stage Go.Proofs.Ytajmbafljncjcaa.Mp
set_option linter.unusedVariables false
set_option linter.unusedSimpArgs false

/-- A table and the rows that it says. -/
structure Tbl (w : World) (v : Option Addr) (q : List (Nat × Nat × Nat)) (A : Option Addr) (n c : Nat) : Prop where
  len : q.length = n
  han : Han w v (sayQ q)
  rise : RiseN 0 q
  few : q.length ≤ 1114112
  cap : q.length ≤ c
  mem : Kd.C k30 w A q.length (q.map toS)
theorem Tbl.below {w w1 : World} {v : Option Addr} {q : List (Nat × Nat × Nat)} {A : Option Addr} {n c : Nat} (h : Tbl w v q A n c) (hb : Below w.heap.size w w1) : Tbl w1 v q A n c :=
  ⟨h.len, h.han.below hb, h.rise, h.few, h.cap, Kd.C_below h.mem hb⟩
theorem tbl_nil (w : World) : Tbl w none [] none 0 0 :=
  ⟨rfl, .inl ⟨rfl, fun _ _ => rfl⟩, trivial, Nat.zero_le _, Nat.le_refl _, rfl, Nat.zero_le _, fun hp => absurd hp (Nat.lt_irrefl 0)⟩
theorem Tbl.stands {w : World} {v : Option Addr} {q : List (Nat × Nat × Nat)} {A : Option Addr} {n c : Nat} (h : Tbl w v q A n c) {A2 : Option Addr} {c2 : Nat} {zs : List Int} (hZ : Kd.C (Kd.int .i32) w A2 zs.length zs) (hzf : ∀ p ∈ zs, -2147483648 ≤ p ∧ p ≤ 2147483647) (hzl : zs.length ≤ 1048576) (m : Int) :
    Calls Try.prog 26 #[.pointer v, .slice A n c, .slice A2 zs.length c2, .int .i64 m] w (Yes w) := by
  have := stands_calls h.han h.rise h.few h.cap h.mem hZ hzf hzl m (c2 := c2)
  rwa [h.len] at this
theorem Tbl.stands0 {w : World} {v : Option Addr} {q : List (Nat × Nat × Nat)} {A : Option Addr} {n c : Nat} (h : Tbl w v q A n c) (m : Int) :
    Calls Try.prog 26 #[.pointer v, .slice A n c, .slice none 0 0, .int .i64 m] w (Yes w) :=
  h.stands (zs := []) ⟨rfl, Nat.zero_le _, fun hp => absurd hp (Nat.lt_irrefl 0)⟩ (fun p hp => by cases hp) (Nat.zero_le _) m
theorem Tbl.asked {w : World} {v : Option Addr} {q : List (Nat × Nat × Nat)} {A : Option Addr} {n c : Nat} (h : Tbl w v q A n c) : Asked w v q A c := asked_ok h.han h.rise h.few h.cap h.mem
theorem Tbl.least {w : World} {v : Option Addr} {q : List (Nat × Nat × Nat)} {A : Option Addr} {n c : Nat} (h : Tbl w v q A n c) : Calls Try.prog 24 #[.slice A n c] w fun e W' => Below w.heap.size w W' ∧ ∃ A c, e = .returned (.slice A (nz (runsN [] 0 q)).length c) ∧ (nz (runsN [] 0 q)).length ≤ c ∧ Kd.C k30 W' A (nz (runsN [] 0 q)).length ((nz (runsN [] 0 q)).map toS) := by
  have := h.asked.least w (Below.refl _ _)
  rwa [h.len] at this

def Built2 (w : World) (l : List S40) (e : Ending) (w' : World) : Prop :=
  Below w.heap.size w w' ∧ ∃ (v : Option Addr) (A : Option Addr) (n c : Nat) (is : Bool), e = .returned (.tuple #[.pointer v, .slice A n c, .bool is, .bool true]) ∧
    (is = true → ∃ q, Tbl w' v q A n c ∧ l.map ofV = q.map toS ∧ q = natR (l.map tri) ∧ checkR (l.map tri) = (0, 0) ∧ ∃ b, v = some ⟨b, 0, none⟩) ∧ (is = false → v = none ∧ (checkR (l.map tri)).2 ≠ 0)
theorem built2_calls (w : World) (A0 : Option Addr) (c0 : Nat) (l : List S40) (hC : Kd.C k40 w A0 l.length l) (hc0 : l.length ≤ c0) (hf : Fits l) (hl : l.length ≤ 1048576) :
    Calls Try.prog 14 #[.slice A0 l.length c0] w (Built2 w l) := by
  refine (built_calls w A0 c0 l hC hc0 hf hl).mono ?_
  rintro e w1 ⟨hb1, v, vr, rfl, hR, hyes, hno⟩
  obtain ⟨A4, c4, rfl, hl4, hC4⟩ := Kd.R_reads hR
  refine ⟨hb1, v, A4, _, c4, _, rfl, fun he => ?_, fun he => ?_⟩
  · have he := of_decide_eq_true he
    obtain ⟨b, rfl, ht⟩ := hyes he
    obtain ⟨h0, hlen, hrise, hpos⟩ := checkR_ok he
    have e1 := natR_tri hpos
    refine ⟨natR (l.map tri), ⟨?_, .inr ⟨b, rfl, ht⟩, hrise, ?_, ?_, ?_⟩, e1, rfl, h0, b, rfl⟩
    · rw [e1, List.length_map]
    · rw [natR_len]; omega
    · rw [e1, List.length_map] at hl4; exact hl4
    · rw [e1, List.length_map] at hC4; exact hC4
  · have he := of_decide_eq_false he
    exact ⟨hno he, he⟩

theorem rows_gl {a b : List (Nat × Nat × Nat)} (hl : a.length ≤ 4194304) (hab : a.length = b.length) (hf : ∀ x ∈ a, x.1 ≤ 1114111 ∧ x.2.1 ≤ 1114111) : ∀ (d k i : Nat), i + d = a.length → d < k → posternlaw08_rows.l0 k (a.map toV) (b.map toS) (a.length : Int) (i : Int) = some (decide (a.drop i = b.drop i)) := by
  intro d
  induction d with
  | zero =>
    intro k i hi hk
    obtain ⟨k, rfl⟩ : ∃ m, k = m + 1 := ⟨k - 1, by omega⟩
    simp only [posternlaw08_rows.l0]
    rw [if_neg (by omega), List.drop_of_length_le (by omega), List.drop_of_length_le (by omega)]
    rfl
  | succ d ih =>
    intro k i hi hk
    obtain ⟨k, rfl⟩ : ∃ m, k = m + 1 := ⟨k - 1, by omega⟩
    have hlt : i < a.length := by omega
    have hlt' : i < b.length := by omega
    have hmem : a.getD i z3 ∈ a := by
      rw [List.getD_eq_getElem?_getD, List.getElem?_eq_getElem hlt]; exact List.getElem_mem hlt
    have hfx := hf _ hmem
    have hr2 := rd_map b i hlt'
    have hr1 : rd_T40 (a.map toV) (i : Int) = toV (a.getD i z3) := by
      simp [rd_T40, List.getD_eq_getElem?_getD, List.getElem?_map, List.getElem?_eq_getElem hlt]
    have hih := ih k (i + 1) (by omega) (by omega)
    rw [drop_q a i hlt, drop_q b i hlt']
    simp only [posternlaw08_rows.l0]
    rw [hr1, hr2]
    generalize a.getD i z3 = x at hfx ⊢
    generalize b.getD i z3 = y
    have x0 : (toV x).f0 = (x.1 : Int) := rfl
    have x1 : (toV x).f1 = (x.2.1 : Int) := rfl
    have x2 : (toV x).f2 = (x.2.2 : Int) := rfl
    have y0 : (toS y).f0 = (y.1 : Int) := rfl
    have y1 : (toS y).f1 = (y.2.1 : Int) := rfl
    have y2 : (toS y).f2 = (y.2.2 : Int) := rfl
    rw [x0, x1, x2, y0, y1, y2, w64 (a := (x.1 : Int)) (by omega) (by omega), w64 (a := (x.2.1 : Int)) (by omega) (by omega), w64 (a := (i : Int) + 1) (by omega) (by omega), show ((i : Int) + 1) = ((i + 1 : Nat) : Int) from rfl, hih]
    rw [if_pos (show (i : Int) < (a.length : Int) by omega), if_pos (show (0 : Int) ≤ (i : Int) by omega), if_pos (show (i : Int) < ((a.map toV).length : Int) by rw [List.length_map]; omega), if_pos (show (i : Int) < ((b.map toS).length : Int) by rw [List.length_map]; omega)]
    by_cases e : x = y
    · subst e
      rw [if_pos rfl, if_pos rfl, if_pos rfl]
      simp
    · rw [decide_eq_false (show ¬ (x :: a.drop (i + 1) = y :: b.drop (i + 1)) from fun h => e (List.cons.inj h).1)]
      by_cases e0 : x.1 = y.1
      · by_cases e1 : x.2.1 = y.2.1
        · have e2 : ¬ x.2.2 = y.2.2 := fun h => e (by rw [Prod.ext_iff, Prod.ext_iff]; exact ⟨e0, e1, h⟩)
          rw [if_pos (by omega), if_pos (by omega), if_neg (by omega)]
        · rw [if_pos (by omega), if_neg (by omega)]
      · rw [if_neg (by omega)]
theorem rows_fg {a b : List (Nat × Nat × Nat)} (hl : a.length ≤ 4194304) (hf : ∀ x ∈ a, x.1 ≤ 1114111 ∧ x.2.1 ≤ 1114111) : posternlaw08_rows.f (a.length + 1) (a.map toV) (b.map toS) = some (decide (a = b)) := by
  unfold posternlaw08_rows.f
  rw [List.length_map, List.length_map]
  by_cases hab : a.length = b.length
  · rw [if_pos (by omega)]
    have h := rows_gl hl hab hf a.length (a.length + 1) 0 (by omega) (by omega)
    rw [Int.natCast_zero, List.drop_zero, List.drop_zero] at h
    exact h
  · rw [if_neg (by omega), decide_eq_false (fun e => hab (by rw [e]))]

theorem sayQ_nz {q : List (Nat × Nat × Nat)} (h : RiseN 0 q) (p : Nat) (hp : p < 1114112) : sayQ (nz (runsN [] 0 q)) p = sayQ q p :=
  Til.nz_says (Nat.le_refl _) (fun p _ => sayQ_le h p) (runsN_ok h) p (Nat.zero_le _) hp
/-- Tables say the same just if the fewest rows are the same. -/
theorem same_rows {q1 q2 : List (Nat × Nat × Nat)} (h1 : RiseN 0 q1) (h2 : RiseN 0 q2) : (∀ p, p < 1114112 → sayQ q1 p = sayQ q2 p) ↔ nz (runsN [] 0 q1) = nz (runsN [] 0 q2) := by
  refine ⟨fun h => ?_, fun h p hp => ?_⟩
  · have t1 := (runsN_ok h1).congr h
    rw [t1.uniq (runsN_ok h2)]
  · rw [← sayQ_nz h1 p hp, ← sayQ_nz h2 p hp, h]

/-- The rows of which a law speaks: those of a table, none where there is none. -/
def RowsOf (w : World) (is : Bool) (v A4 : Option Addr) (n4 c4 : Nat) (q : List (Nat × Nat × Nat)) (A : Option Addr) (n c : Nat) : Prop :=
  Tbl w v q A n c ∧ ((is = true ∧ A = A4 ∧ n = n4 ∧ c = c4) ∨ (is = false ∧ v = none ∧ A = none ∧ n = 0 ∧ c = 0))
theorem Built2.rows {w w1 : World} {l : List S40} {e : Ending} (h : Built2 w l e w1) :
    Below w.heap.size w w1 ∧ ∃ (v : Option Addr) (A4 : Option Addr) (n4 c4 : Nat) (is : Bool), e = .returned (.tuple #[.pointer v, .slice A4 n4 c4, .bool is, .bool true]) ∧ ∃ q A n c, RowsOf w1 is v A4 n4 c4 q A n c := by
  obtain ⟨hb, v, A4, n4, c4, is, rfl, hyes, hno⟩ := h
  refine ⟨hb, v, A4, n4, c4, is, rfl, ?_⟩
  cases is with
  | true => obtain ⟨q, h2, _⟩ := hyes rfl; exact ⟨q, A4, n4, c4, h2, .inl ⟨rfl, rfl, rfl, rfl⟩⟩
  | false => obtain ⟨rfl, _⟩ := hno rfl; exact ⟨[], none, 0, 0, tbl_nil _, .inr ⟨rfl, rfl, rfl, rfl, rfl⟩⟩

end Go.Proofs.Ytajmbafljncjcaa.PStageOver
