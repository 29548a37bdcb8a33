/- The document's answer over spans, as plain lists: given, Has, edges, Put, Make, Is, alike. -/
import Derived.Test.YtkpdccegamcppaaXMake
import Derived.Test.YtkpdccegamcppaaPSpanx2
namespace Go.Proofs.Ytkpdccegamcppaa.PSpan
open Go.RowKit Go.Proofs.YtkpdccegamcppaaW.PrintWords Go.Proofs.YtkpdccegamcppaaW.PrintLast Go.Proofs.YtkpdccegamcppaaW.PrintMore Go.Proofs.Ytkpdccegamcppaa.SpanP
set_option linter.unusedVariables false
set_option linter.unusedSimpArgs false

abbrev Q := S68
def toR (x : S50) : Q := ⟨x.f0, x.f1⟩
def qr (x : Q) : Sp := (x.f0, x.f1)
def qrs (l : List Q) : List Sp := l.map qr
theorem qrs_toR (l : List S50) : qrs (l.map toR) = prs l := by simp [qrs, prs, qr, pr, toR]
theorem qrs_append (a b : List Q) : qrs (a ++ b) = qrs a ++ qrs b := List.map_append ..
theorem qrs_inj {a b : List Q} (h : qrs a = qrs b) : a = b := by
  have hi : ∀ x y : Q, qr x = qr y → x = y := fun x y h => by
    cases x; cases y; simp only [qr, Prod.mk.injEq] at h; rw [h.1, h.2]
  exact List.map_inj_right (fun x y => hi x y) |>.1 h
theorem toR_inj {a b : List S50} (h : a.map toR = b.map toR) : a = b := prs_inj (by rw [← qrs_toR, ← qrs_toR, h])
theorem rdq_eq (l : List Q) (i : Nat) (h : i < l.length) : rd_T68 l (i : Int) = l[i] := by
  unfold rd_T68
  rw [Int.toNat_natCast, List.getD_eq_getElem?_getD, List.getElem?_eq_getElem h]
  rfl
theorem rdp_eq (l : List S50) (i : Nat) (h : i < l.length) : rd_T50 l (i : Int) = l[i] := by
  unfold rd_T50
  rw [Int.toNat_natCast, List.getD_eq_getElem?_getD, List.getElem?_eq_getElem h]
  rfl
theorem w64s (i n : Nat) (h : i < n) (hn : n ≤ 4294967296) : wrap64 ((i : Int) + 1) = ((i + 1 : Nat) : Int) := by unfold wrap64; omega

theorem given_ev (l : List S50) (hl : l.length ≤ 4194304) : Ev (fun k => posternlaw07_given.f k l) (l.map toR) := by
  have : ∀ d i, i + d = l.length → Ev (fun k => posternlaw07_given.l0 k l ((l.take i).map toR) (i : Int)) (l.map toR) := by
    intro d
    induction d with
    | zero =>
      intro i hi
      refine Ev.step (f := fun _ => some (l.map toR)) (fun k => ?_) (Ev.now _)
      simp only [posternlaw07_given.l0]
      rw [if_neg (by omega), show i = l.length by omega, List.take_length]
    | succ d ih =>
      intro i hi
      refine Ev.step (fun k => ?_) (ih (i + 1) (by omega))
      have hlt : i < l.length := by omega
      simp only [posternlaw07_given.l0]
      rw [if_pos (by omega), if_pos (by omega), if_pos (by rw [List.length_map, List.length_take]; omega), w64s i l.length hlt (by omega), take_rd l i hlt, List.map_append]
      rfl
  exact this l.length 0 (by omega)

def hasB (q : List Sp) (p : Int) : Bool := q.any fun x => decide (x.1 ≤ p ∧ p ≤ x.2)
theorem hasB_iff (q : List Sp) (p : Int) : hasB q p = true ↔ Mem q p := by
  unfold hasB Mem
  rw [List.any_eq_true]
  constructor
  · rintro ⟨x, hx, h⟩; exact ⟨x, hx, of_decide_eq_true h⟩
  · rintro ⟨x, hx, h⟩; exact ⟨x, hx, decide_eq_true h⟩
theorem has_ev (q : List Q) (hl : q.length ≤ 4194304) (p : Int) : Ev (fun k => posternref07_Has.f k q p) (hasB (qrs q) p) := by
  have : ∀ d i, i + d = q.length → Ev (fun k => posternref07_Has.l0 k q p (i : Int)) (hasB (qrs (q.drop i)) p) := by
    intro d
    induction d with
    | zero =>
      intro i hi
      refine Ev.step (f := fun _ => some _) (fun k => ?_) (Ev.now _)
      simp only [posternref07_Has.l0]
      rw [if_neg (by omega), List.drop_of_length_le (by omega)]
      rfl
    | succ d ih =>
      intro i hi
      have hlt : i < q.length := by omega
      have hd : hasB (qrs (q.drop i)) p = (decide (q[i].f0 ≤ p ∧ p ≤ q[i].f1) || hasB (qrs (q.drop (i + 1))) p) := by
        rw [List.drop_eq_getElem_cons hlt]; rfl
      by_cases hc : q[i].f0 ≤ p ∧ p ≤ q[i].f1
      · refine Ev.step (f := fun _ => some _) (fun k => ?_) (Ev.now _)
        simp only [posternref07_Has.l0]
        rw [rdq_eq q i hlt, if_pos (by omega), if_pos (by omega), if_pos hc.1, if_pos hc.2, hd, decide_eq_true hc]
        rfl
      · rw [hd, decide_eq_false hc, Bool.false_or]
        refine Ev.step (fun k => ?_) (ih (i + 1) (by omega))
        simp only [posternref07_Has.l0]
        rw [rdq_eq q i hlt, if_pos (by omega), if_pos (by omega), w64s i q.length hlt (by omega)]
        by_cases h1 : p ≥ q[i].f0
        · rw [if_pos h1, if_neg (by omega)]
        · rw [if_neg h1]
  have h := this q.length 0 (by omega)
  rw [List.drop_zero] at h
  exact h

/-! ### the edges -/
def edg1 (e : List Int) (x : Q) : List Int := if x.f1 < 1114111 then insP (x.f1 + 1) (insP x.f0 e) else insP x.f0 e
def edgP (e : List Int) (q : List Q) : List Int := q.foldl edg1 e
structure SortE (e : List Int) : Prop where
  lt : e.Pairwise (· < ·)
  bd : ∀ x ∈ e, 0 ≤ x ∧ x ≤ 1114111
theorem insP_mem (p : Int) : ∀ (l : List Int) (x : Int), x ∈ insP p l ↔ x = p ∨ x ∈ l
  | [], x => by simp [insP]
  | y :: l, x => by
    have ih := insP_mem p l x
    by_cases h1 : y < p
    · rw [insP_lt _ h1, List.mem_cons, List.mem_cons, ih]
      constructor
      · rintro (h | h | h)
        · exact .inr (.inl h)
        · exact .inl h
        · exact .inr (.inr h)
      · rintro (h | h | h)
        · exact .inr (.inl h)
        · exact .inl h
        · exact .inr (.inr h)
    · by_cases h2 : y = p
      · rw [insP_eq _ h1 h2, List.mem_cons]
        constructor
        · exact .inr
        · rintro (h | h)
          · exact .inl (h.trans h2.symm)
          · exact h
      · rw [insP_gt _ h1 h2, List.mem_cons]
theorem insP_lt' (p : Int) : ∀ (l : List Int), l.Pairwise (· < ·) → (insP p l).Pairwise (· < ·)
  | [], _ => List.pairwise_singleton _ _
  | y :: l, h => by
    have hc := List.pairwise_cons.1 h
    by_cases h1 : y < p
    · rw [insP_lt _ h1]
      refine List.pairwise_cons.2 ⟨fun x hx => ?_, insP_lt' p l hc.2⟩
      rcases (insP_mem p l x).1 hx with rfl | hx
      · exact h1
      · exact hc.1 x hx
    · by_cases h2 : y = p
      · rw [insP_eq _ h1 h2]; exact h
      · rw [insP_gt _ h1 h2]
        refine List.pairwise_cons.2 ⟨fun x hx => ?_, h⟩
        rcases List.mem_cons.1 hx with rfl | hx
        · omega
        · have := hc.1 x hx; omega
theorem SortE.ins {e : List Int} (h : SortE e) {p : Int} (h0 : 0 ≤ p) (h1 : p ≤ 1114111) : SortE (insP p e) :=
  ⟨insP_lt' p e h.lt, fun x hx => by
    rcases (insP_mem p e x).1 hx with rfl | hx
    · exact ⟨h0, h1⟩
    · exact h.bd x hx⟩
def MayQ (q : List Q) : Prop := ∀ x ∈ q, 0 ≤ x.f0 ∧ x.f0 ≤ x.f1 ∧ x.f1 ≤ 1114111
theorem edg1_ok {e : List Int} (h : SortE e) {x : Q} (hx : 0 ≤ x.f0 ∧ x.f0 ≤ x.f1 ∧ x.f1 ≤ 1114111) :
    SortE (edg1 e x) ∧ (edg1 e x).length ≤ e.length + 2 ∧ (∀ y ∈ e, y ∈ edg1 e x) ∧ x.f0 ∈ edg1 e x ∧ (x.f1 < 1114111 → x.f1 + 1 ∈ edg1 e x) := by
  have s1 := h.ins (p := x.f0) (by omega) (by omega)
  have l1 := insP_len x.f0 e
  unfold edg1
  by_cases hc : x.f1 < 1114111
  · rw [if_pos hc]
    have l2 := insP_len (x.f1 + 1) (insP x.f0 e)
    exact ⟨s1.ins (by omega) (by omega), by omega, fun y hy => (insP_mem _ _ _).2 (.inr ((insP_mem _ _ _).2 (.inr hy))), (insP_mem _ _ _).2 (.inr ((insP_mem _ _ _).2 (.inl rfl))), fun _ => (insP_mem _ _ _).2 (.inl rfl)⟩
  · rw [if_neg hc]
    exact ⟨s1, by omega, fun y hy => (insP_mem _ _ _).2 (.inr hy), (insP_mem _ _ _).2 (.inl rfl), fun h => absurd h hc⟩
theorem edgP_ok : ∀ (q : List Q) (e : List Int), SortE e → MayQ q → SortE (edgP e q) ∧ (edgP e q).length ≤ e.length + 2 * q.length ∧ (∀ y ∈ e, y ∈ edgP e q) ∧ (∀ x ∈ q, x.f0 ∈ edgP e q ∧ (x.f1 < 1114111 → x.f1 + 1 ∈ edgP e q))
  | [], e, h, _ => ⟨h, by show e.length ≤ _; omega, fun y hy => hy, fun x hx => by cases hx⟩
  | x :: q, e, h, hm => by
    obtain ⟨a1, a2, a3, a4, a5⟩ := edg1_ok h (hm x List.mem_cons_self)
    obtain ⟨b1, b2, b3, b4⟩ := edgP_ok q (edg1 e x) a1 (fun y hy => hm y (List.mem_cons_of_mem _ hy))
    refine ⟨b1, ?_, fun y hy => b3 y (a3 y hy), fun y hy => ?_⟩
    · show (edgP (edg1 e x) q).length ≤ _
      simp only [List.length_cons]; omega
    · rcases List.mem_cons.1 hy with rfl | hy
      · exact ⟨b3 _ a4, fun h => b3 _ (a5 h)⟩
      · exact b4 y hy
theorem edges1_ev (L : List (List Q)) (hL : L.length ≤ 4194304) (j : Nat) (hj : j < L.length) (q : List Q) (hq : rd_L3 L (j : Int) = q) (hl : q.length ≤ 2097152) (hm : MayQ q) (r : List Int) :
    ∀ (d i : Nat) (e : List Int), i + d = q.length → SortE e → e.length ≤ 8388608 + 2 * i → Ev (fun k => posternref07_edges.l0 k L (edgP e (q.drop i)) ((j + 1 : Nat) : Int)) r → Ev (fun k => posternref07_edges.l1 k L e (j : Int) (i : Int)) r := by
  intro d
  induction d with
  | zero =>
    intro i e hi hs he h
    refine Ev.step (fun k => ?_) h
    simp only [posternref07_edges.l1]
    rw [hq, if_pos (by omega), if_pos (by omega), if_neg (by omega), w64s j L.length hj (by omega), List.drop_of_length_le (by omega)]
    rfl
  | succ d ih =>
    intro i e hi hs he h
    have hlt : i < q.length := by omega
    have hx := hm _ (List.getElem_mem hlt)
    obtain ⟨a1, a2, _⟩ := edg1_ok hs hx
    have hd : edgP e (q.drop i) = edgP (edg1 e q[i]) (q.drop (i + 1)) := by rw [List.drop_eq_getElem_cons hlt]; rfl
    rw [hd] at h
    refine Ev.step (fun k => ?_) (ih (i + 1) _ (by omega) a1 (by omega) h)
    have hle := insP_len q[i].f0 e
    simp only [posternref07_edges.l1]
    rw [hq, rdq_eq q i hlt, if_pos (by omega), if_pos (by omega), if_pos (by omega), if_pos (by omega)]
    have w1 : wrap32 (q[i].f1 + 1) = q[i].f1 + 1 := by unfold wrap32; omega
    have f1 : posternref07_insert.f e q[i].f0 = some (insP q[i].f0 e) := by unfold posternref07_insert.f; rw [if_pos (by omega)]
    rw [f1, w1, w64s i q.length hlt (by omega)]
    simp only [Option.bind_some]
    unfold edg1
    by_cases hc : q[i].f1 < 1114111
    · have f2 : posternref07_insert.f (insP q[i].f0 e) (q[i].f1 + 1) = some (insP (q[i].f1 + 1) (insP q[i].f0 e)) := by unfold posternref07_insert.f; rw [if_pos (by omega)]
      rw [if_pos hc, if_pos hc, f2]
      rfl
    · rw [if_neg hc, if_neg hc]
theorem sortE0 : SortE [0] := ⟨List.pairwise_singleton _ _, fun x hx => by rw [List.mem_singleton.1 hx]; omega⟩
def edg2 (a b : List Q) : List Int := edgP (edgP [0] a) b
theorem edges_ev (a b : List Q) (ha : a.length ≤ 2097152) (hb : b.length ≤ 2097152) (ma : MayQ a) (mb : MayQ b) : Ev (fun k => posternref07_edges.f k [a, b]) (edg2 a b) := by
  obtain ⟨a1, a2, _⟩ := edgP_ok a [0] sortE0 ma
  have e0 : Ev (fun k => posternref07_edges.l0 k [a, b] (edg2 a b) ((2 : Nat) : Int)) (edg2 a b) := Ev.step (f := fun _ => some _) (fun k => by simp [posternref07_edges.l0]) (Ev.now _)
  have e1 := edges1_ev [a, b] (by simp) 1 (by simp) b rfl hb mb _ b.length 0 (edgP [0] a) (by omega) a1 (by simp only [List.length_cons, List.length_nil] at a2; omega) (by rw [List.drop_zero]; exact e0)
  have e2 : Ev (fun k => posternref07_edges.l0 k [a, b] (edgP [0] a) ((1 : Nat) : Int)) (edg2 a b) := Ev.step (fun k => by simp [posternref07_edges.l0]) e1
  have e3 := edges1_ev [a, b] (by simp) 0 (by simp) a rfl ha ma _ a.length 0 [0] (by omega) sortE0 (by simp) (by rw [List.drop_zero]; exact e2)
  exact Ev.step (fun k => by unfold posternref07_edges.f; simp [posternref07_edges.l0]) e3

end Go.Proofs.Ytkpdccegamcppaa.PSpan
