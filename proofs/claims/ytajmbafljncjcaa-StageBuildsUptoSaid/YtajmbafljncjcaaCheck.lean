/- check: may these rows be? -/
import Derived.Test.YtajmbafljncjcaaLay
namespace Go.Proofs.Ytajmbafljncjcaa.Stage
open Go.RowKit Go.Proofs.YtajmbafljncjcaaW.PrintWords Go.Proofs.YtajmbafljncjcaaW.PrintLast Go.Proofs.YtajmbafljncjcaaW.PrintMore Go.Proofs.Ytajmbafljncjcaa.Mp
set_option linter.unusedVariables false
set_option linter.unusedSimpArgs false

/-- Rows of whole numbers, as they lie in memory. -/
def RowsI (w : World) (g o : Nat) (l : List (Int × Int × Int)) : Prop :=
  ∀ i, i < l.length → w.cell? ⟨g, o + i * 3, none⟩ = some (.int .i32 (l.getD i (0, 0, 0)).1) ∧ w.cell? ⟨g, o + i * 3 + 1, none⟩ = some (.int .i32 (l.getD i (0, 0, 0)).2.1) ∧ w.cell? ⟨g, o + i * 3 + 2, none⟩ = some (.int .i64 (l.getD i (0, 0, 0)).2.2)
theorem RowsI.below {w w1 : World} {g o : Nat} {l : List (Int × Int × Int)} (h : RowsI w g o l) (hb : Below w.heap.size w w1) : RowsI w1 g o l := fun i hi =>
  ⟨pw_cell_below hb (h i hi).1, pw_cell_below hb (h i hi).2.1, pw_cell_below hb (h i hi).2.2⟩

/-- The first row that may not be: its place and the error's number. -/
def chk : Int → Int → List (Int × Int × Int) → Int × Int
  | _, _, [] => (0, 0)
  | last, i, r :: l => if r.1 ≤ last ∨ r.2.1 < r.1 ∨ 1114111 < r.2.1 then (i, 80) else if r.2.2 < 0 ∨ 65535 < r.2.2 then (i, 81) else chk r.2.1 (i + 1) l
def checkR (l : List (Int × Int × Int)) : Int × Int := if 65536 < l.length then (65536, 80) else chk (-1) 0 l

def CheckPost (w : World) (r : Int × Int) (e : Ending) (w' : World) : Prop := e = .returned (.tuple #[.int .i64 r.1, .int .i64 r.2]) ∧ Below w.heap.size w w'

theorem drop_getD (l : List (Int × Int × Int)) (i : Nat) (h : i < l.length) : l.drop i = l.getD i (0, 0, 0) :: l.drop (i + 1) := by
  rw [List.drop_eq_getElem_cons h]
  simp [List.getD_eq_getElem?_getD, List.getElem?_eq_getElem h]

set_option maxRecDepth 100000 in
set_option maxHeartbeats 1600000 in
theorem check_calls (w : World) (g o cap : Nat) (A : Option Addr) (l : List (Int × Int × Int)) (hA : 0 < l.length → A = some ⟨g, o, none⟩) (hrows : RowsI w g o l) (hl : l.length ≤ 9223372036854775807) :
    Calls Try.prog 57 #[.slice A l.length cap] w (CheckPost w (checkR l)) := by
  have HRW := Aside0.mk hrows
  clear hrows
  by_cases hbig : 65536 < l.length
  · have HE := Aside0.mk (show checkR l = (65536, 80) from if_pos hbig)
    have hb' : (65536 : Int) < (l.length : Int) := by omega
    go_enter Try.func57, Try.ntmps57
    go_wp2
    go_ret2
    exact ⟨by rw [HE.out]; rfl, Below.refl _ _⟩
  · have HE := Aside0.mk (show checkR l = chk (-1) 0 l from if_neg hbig)
    have hb' : ¬ (65536 : Int) < (l.length : Int) := by omega
    go_enter Try.func57, Try.ntmps57
    go_wp2
    go_loopg [4, 12] l.length (fun q v4 v12 wr => ∃ (last : Int) (i : Nat), i ≤ l.length ∧ l.length - i ≤ q ∧ v4 = .int .i32 last ∧ v12 = .int .i64 (i : Int) ∧ Aside0 (checkR l = chk last i (l.drop i)) ∧ Aside0 (Below w.heap.size w wr))
    case atStart => exact ⟨-1, 0, by omega, by omega, rfl, rfl, ⟨by rw [HE.out]; rfl⟩, ⟨Below.refl _ _⟩⟩
    case round =>
      obtain ⟨last, i, hi, hq, rfl, rfl, hC, hB⟩ := hrel
      clear HE
      by_cases hlt : i < l.length
      · have hlt' : (i : Int) < (l.length : Int) := by omega
        obtain rfl := hA (by omega)
        have hrw := HRW.out.below hB.out i hlt
        have hD := drop_getD l i hlt
        rcases hrd : l.getD i (0, 0, 0) with ⟨F, T, N⟩
        rw [hrd] at hrw hD
        rw [hD] at hC
        obtain ⟨c0, c1, c2⟩ := hrw
        have hB2 := Aside0.mk (hB.out.alloc hB.out.size (.cells #[.int .i32 F, .int .i32 T, .int .i64 N] 40))
        have h1 := hC.out
        simp only [chk] at h1
        clear hD hrd hC
        by_cases b1 : F ≤ last
        · have HE := Aside0.mk (show checkR l = ((i : Int), 80) from by rw [h1, if_pos (.inl b1)])
          clear h1
          go_wp2
          go_ret2
          exact ⟨by rw [HE.out]; rfl, hB2.out⟩
        · by_cases b2 : T < F
          · have HE := Aside0.mk (show checkR l = ((i : Int), 80) from by rw [h1, if_pos (.inr (.inl b2))])
            clear h1
            go_wp2
            go_ret2
            exact ⟨by rw [HE.out]; rfl, hB2.out⟩
          · by_cases b3 : 1114111 < T
            · have HE := Aside0.mk (show checkR l = ((i : Int), 80) from by rw [h1, if_pos (.inr (.inr b3))])
              clear h1
              go_wp2
              go_ret2
              exact ⟨by rw [HE.out]; rfl, hB2.out⟩
            · rw [if_neg (by omega)] at h1
              by_cases b4 : N < 0
              · have HE := Aside0.mk (show checkR l = ((i : Int), 81) from by rw [h1, if_pos (.inl b4)])
                clear h1
                go_wp2
                go_ret2
                exact ⟨by rw [HE.out]; rfl, hB2.out⟩
              · by_cases b5 : 65535 < N
                · have HE := Aside0.mk (show checkR l = ((i : Int), 81) from by rw [h1, if_pos (.inr b5)])
                  clear h1
                  go_wp2
                  go_ret2
                  exact ⟨by rw [HE.out]; rfl, hB2.out⟩
                · rw [if_neg (by omega)] at h1
                  have HE := Aside0.mk h1
                  clear h1
                  go_wp2
                  go_roundg (gk - 1)
                  case measure => omega
                  case rel => exact ⟨T, i + 1, by omega, by omega, rfl, by go_num, HE, hB2⟩
      · have he : i = l.length := by omega
        have HE := Aside0.mk (show checkR l = (0, 0) from by rw [hC.out, List.drop_of_length_le (by omega)]; rfl)
        have hge : ¬ (i : Int) < (l.length : Int) := by omega
        clear he hC
        go_wp2
        go_ret2
        exact ⟨by rw [HE.out]; rfl, hB.out⟩

/-- Rows that may be, as natural numbers. -/
def natR (l : List (Int × Int × Int)) : List (Nat × Nat × Nat) := l.map fun r => (r.1.toNat, r.2.1.toNat, r.2.2.toNat)
theorem natR_len (l : List (Int × Int × Int)) : (natR l).length = l.length := by simp [natR]
theorem chk_ok : ∀ (l : List (Int × Int × Int)) (last i : Int) (low : Nat), last + 1 = low → 0 ≤ i → chk last i l = (0, 0) → RiseN low (natR l) ∧ ∀ r ∈ l, 0 ≤ r.1 ∧ 0 ≤ r.2.1 ∧ 0 ≤ r.2.2
  | [], _, _, _, _, _, _ => ⟨trivial, fun r h => by cases h⟩
  | r :: l, last, i, low, hlow, hi, h => by
    simp only [chk] at h
    split at h
    · simp at h
    · rename_i h1
      split at h
      · simp at h
      · rename_i h2
        have ih := chk_ok l r.2.1 (i + 1) (r.2.1.toNat + 1) (by omega) (by omega) h
        refine ⟨⟨by simp; omega, by simp; omega, by simp; omega, by simp; omega, ih.1⟩, fun q hq => ?_⟩
        rcases List.mem_cons.1 hq with rfl | hq
        · omega
        · exact ih.2 q hq
theorem checkR_ok {l : List (Int × Int × Int)} (h : (checkR l).2 = 0) : checkR l = (0, 0) ∧ l.length ≤ 65536 ∧ RiseN 0 (natR l) ∧ ∀ r ∈ l, 0 ≤ r.1 ∧ 0 ≤ r.2.1 ∧ 0 ≤ r.2.2 := by
  unfold checkR at h ⊢
  split at h
  · simp at h
  · rename_i hl
    rw [if_neg hl]
    have key : ∀ (l : List (Int × Int × Int)) (last i : Int), (chk last i l).2 = 0 → chk last i l = (0, 0) := by
      intro l
      induction l with
      | nil => intro last i _; rfl
      | cons r l ih =>
        intro last i h
        simp only [chk] at h ⊢
        split at h
        · simp at h
        · rename_i h1
          rw [if_neg h1]
          split at h
          · simp at h
          · rename_i h2
            rw [if_neg h2]
            exact ih _ _ h
    have hk := key l _ _ h
    have := chk_ok l (-1) 0 0 (by omega) (by omega) hk
    exact ⟨hk, by omega, this⟩
theorem RowsI.nat {w : World} {g o : Nat} {l : List (Int × Int × Int)} (h : RowsI w g o l) (h0 : ∀ r ∈ l, 0 ≤ r.1 ∧ 0 ≤ r.2.1 ∧ 0 ≤ r.2.2) : RowsAt w g o (natR l) := fun i hi => by
  rw [natR_len] at hi
  have hm := h0 (l.getD i (0, 0, 0)) (by rw [List.getD_eq_getElem?_getD, List.getElem?_eq_getElem hi]; exact List.getElem_mem hi)
  have e : (natR l).getD i z3 = ((l.getD i (0, 0, 0)).1.toNat, (l.getD i (0, 0, 0)).2.1.toNat, (l.getD i (0, 0, 0)).2.2.toNat) := by
    simp [natR, List.getD_eq_getElem?_getD, List.getElem?_eq_getElem hi]
  rw [e]
  simp only [Int.toNat_of_nonneg hm.1, Int.toNat_of_nonneg hm.2.1, Int.toNat_of_nonneg hm.2.2]
  exact h i hi

end Go.Proofs.Ytajmbafljncjcaa.Stage
