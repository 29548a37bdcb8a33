/- The document's insert over a row of one's own: what it comes to. -/
import Derived.Test.YtkpdccegamcppaaXIns
namespace Go.Proofs.Ytkpdccegamcppaa.PSpan
open Go.RowKit Go.Proofs.YtkpdccegamcppaaW.PrintWords Go.Proofs.YtkpdccegamcppaaW.PrintLast Go.Proofs.YtkpdccegamcppaaW.PrintMore
set_option linter.unusedVariables false
set_option linter.unusedSimpArgs false

/-- A number put into a list that rises, once. -/
def insP (p : Int) : List Int → List Int
  | [] => [p]
  | x :: l => if x < p then x :: insP p l else if x = p then x :: l else p :: x :: l
def fndP (p : Int) : List Int → Bool
  | [] => false
  | x :: l => if x < p then fndP p l else decide (x = p)
theorem fndP_lt {p x : Int} (l : List Int) (h : x < p) : fndP p (x :: l) = fndP p l := by unfold fndP; rw [if_pos h]; cases l <;> rfl
theorem fndP_ge {p x : Int} (l : List Int) (h : ¬ x < p) : fndP p (x :: l) = decide (x = p) := by unfold fndP; rw [if_neg h]
theorem insP_lt {p x : Int} (l : List Int) (h : x < p) : insP p (x :: l) = x :: insP p l := by rw [insP, if_pos h]
theorem insP_eq {p x : Int} (l : List Int) (h : ¬ x < p) (e : x = p) : insP p (x :: l) = x :: l := by rw [insP, if_neg h, if_pos e]
theorem insP_gt {p x : Int} (l : List Int) (h : ¬ x < p) (e : ¬ x = p) : insP p (x :: l) = p :: x :: l := by rw [insP, if_neg h, if_neg e]
theorem insP_fnd (p : Int) : ∀ l : List Int, fndP p l = true → insP p l = l
  | [], h => by simp [fndP] at h
  | x :: l, h => by
    unfold fndP at h
    unfold insP
    by_cases h1 : x < p
    · rw [if_pos h1] at h ⊢
      rw [insP_fnd p l h]
    · rw [if_neg h1] at h ⊢
      rw [if_pos (of_decide_eq_true h)]
theorem insP_len (p : Int) : ∀ l : List Int, (insP p l).length ≤ l.length + 1
  | [] => Nat.le_refl _
  | x :: l => by
    have := insP_len p l
    unfold insP
    split
    · simp only [List.length_cons]; omega
    · split <;> simp only [List.length_cons] <;> omega
theorem insD_l {l : List Int} {p : Int} (hl : l.length ≤ 16777216) : ∀ (d k i : Nat), i + d = l.length → d < k → insD.l0 k l p (i : Int) = some (if fndP p (l.drop i) = true then [] else l.take i ++ insP p (l.drop i)) := by
  intro d
  induction d with
  | zero =>
    intro k i hi hk
    obtain ⟨k, rfl⟩ : ∃ m, k = m + 1 := ⟨k - 1, by omega⟩
    obtain rfl : i = l.length := by omega
    have e1 : ((l.length : Int)).toNat = l.length := by omega
    have t1 : l.take l.length = l := List.take_length
    have t2 : l.drop l.length = [] := List.drop_length
    simp only [insD.l0]
    rw [if_neg (by omega), e1, t1, t2]
    simp only [Option.bind_some, List.nil_append, List.append_nil, List.length_nil, fndP, insP]
    rw [if_pos (show (0 : Int) ≤ (l.length : Int) by omega), if_pos (show (l.length : Int) ≤ (l.length : Int) by omega), if_pos (show 0 + l.length < 35184372088832 by omega), if_pos (by simp only [List.length_cons, List.length_nil]; omega), if_pos (by simp only [List.length_append, List.length_cons, List.length_nil]; omega)]
    rfl
  | succ d ih =>
    intro k i hi hk
    obtain ⟨k, rfl⟩ : ∃ m, k = m + 1 := ⟨k - 1, by omega⟩
    have hlt : i < l.length := by omega
    have hd : l.drop i = rd l (i : Int) :: l.drop (i + 1) := by
      rw [List.drop_eq_getElem_cons hlt]
      simp [rd, List.getD_eq_getElem?_getD, List.getElem?_eq_getElem hlt]
    have ht : l.take (i + 1) = l.take i ++ [rd l (i : Int)] := by
      rw [List.take_succ_eq_append_getElem hlt]
      simp [rd, List.getD_eq_getElem?_getD, List.getElem?_eq_getElem hlt]
    have hih := ih k (i + 1) (by omega) (by omega)
    rw [ht] at hih
    have hw : wrap64 ((i : Int) + 1) = ((i + 1 : Nat) : Int) := by unfold wrap64; omega
    have e1 : ((i : Int)).toNat = i := by omega
    have hdl : (l.drop i).length = l.length - i := List.length_drop
    have htl : (l.take i).length = i := by rw [List.length_take]; omega
    simp only [insD.l0]
    rw [if_pos (show (i : Int) < (l.length : Int) by omega), if_pos (show (0 : Int) ≤ (i : Int) by omega), hw, hih, e1]
    simp only [Option.bind_some, List.nil_append, List.length_nil]
    rw [if_pos (show (i : Int) ≤ (l.length : Int) by omega), if_pos (show 0 + (l.take i).length < 35184372088832 by omega), if_pos (show (l.take i).length + [p].length < 35184372088832 by simp only [List.length_cons, List.length_nil]; omega), if_pos (show (l.take i ++ [p]).length + (l.drop i).length < 35184372088832 by simp only [List.length_append, List.length_cons, List.length_nil]; omega)]
    rw [hd]
    generalize rd l (i : Int) = x
    by_cases h1 : x < p
    · rw [if_pos h1, fndP_lt _ h1, insP_lt _ h1, List.append_assoc]
      rfl
    · rw [if_neg h1, fndP_ge _ h1]
      by_cases h2 : x = p
      · rw [if_pos h2, if_pos (decide_eq_true h2)]
      · rw [if_neg h2, if_neg (show ¬ decide (x = p) = true by simp [h2]), insP_gt _ h1 h2, List.append_assoc]
        rfl
theorem insD_f {l : List Int} {p : Int} (hl : l.length ≤ 16777216) : insD.f (l.length + 1) l p = some (if fndP p l = true then [] else insP p l) := by
  have h := insD_l (p := p) hl l.length (l.length + 1) 0 (by omega) (by omega)
  rw [List.drop_zero, List.take_zero, List.nil_append] at h
  exact h
theorem insP_ne (p : Int) (l : List Int) : insP p l ≠ [] := by
  cases l with
  | nil => simp [insP]
  | cons x l => unfold insP; split; simp; split <;> simp

def posternref07_insert.f (l0 : List Int) (a1 : Int) : Option (List Int) := if l0.length ≤ 16777216 then some (insP a1 l0) else none
theorem posternref07_insert.calls (P0_ : Nat → Prop) (u9000_ : Value) (l0 : List Int) (a1 : Int) (r : List Int) (w0 w : World) (hB : Below w0.heap.size w0 w) (ho0 : Kd.R (Kd.int .i32) 21 w w0.heap.size P0_ u9000_ l0) (h : posternref07_insert.f l0 a1 = some r) :
    Calls Try.prog 62 #[u9000_, .int .i32 a1] w fun e w' => ∃ v0_ : Value, e = .returned (v0_) ∧ Kd.R (Kd.int .i32) 21 w' w0.heap.size (fun k_ => (P0_ k_ ∨ w.heap.size ≤ k_)) v0_ r ∧ Below w0.heap.size w0 w' ∧ Kept w w' (fun k_ => P0_ k_) := by
  unfold posternref07_insert.f at h
  by_cases hl : l0.length ≤ 16777216
  · rw [if_pos hl] at h
    obtain rfl := Option.some.inj h
    obtain ⟨A, c, rfl, hc, hC⟩ := Kd.R_reads ho0
    refine (insD.calls (l0.length + 1) A c l0 a1 _ w hC hc (insD_f hl)).mono ?_
    rintro e w' (⟨h1, rfl, hb⟩ | ⟨h1, v0, rfl, hR, hb⟩)
    · have hf : fndP a1 l0 = true := by
        by_cases hf : fndP a1 l0 = true
        · exact hf
        · rw [if_neg hf] at h1
          exact absurd h1 (insP_ne _ _)
      refine ⟨_, rfl, ?_, hB.trans (hb.mono hB.size), Kept.below (Kept.refl w _) hb⟩
      rw [insP_fnd _ _ hf]
      exact Kd.R_mono (Kd.R_below ho0 hb) (fun _ hk => .inl hk)
    · by_cases hf : fndP a1 l0 = true
      · rw [if_pos hf] at h1
        exact absurd rfl h1
      · rw [if_neg hf] at hR
        exact ⟨_, rfl, Kd.R_lower (Kd.R_mono (Kd.R_bound hR) (fun _ hk => .inr hk.2.1)) hB.size, hB.trans (hb.mono hB.size), Kept.below (Kept.refl w _) hb⟩
  · rw [if_neg hl] at h
    cases h

end Go.Proofs.Ytkpdccegamcppaa.PSpan
