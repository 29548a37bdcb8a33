/- A set as a text: the package's Text. A set as a text: the document's Text. A text byte by byte. What is told is read back, and what is read is told so. -/
import Derived.Test.YtkpdccegamcppaaXHexs
import Derived.Test.YtkpdccegamcppaaXText
import Derived.Test.YtkpdccegamcppaaXEvI
import Derived.Test.YtkpdccegamcppaaPSpanx23
import Derived.Test.YtkpdccegamcppaaWWords
import Derived.Test.YtkpdccegamcppaaPSpanx0
import Derived.Test.YtkpdccegamcppaaXRead
/-! ### XTextP: A set as a text: the package's Text. -/
namespace Go.Proofs.Ytkpdccegamcppaa.PSpan
open Go.RowKit Go.Proofs.YtkpdccegamcppaaW.PrintWords Go.Proofs.YtkpdccegamcppaaW.PrintLast Go.Proofs.YtkpdccegamcppaaW.PrintMore Go.Proofs.Ytkpdccegamcppaa.SpanP
set_option linter.unusedVariables false
set_option linter.unusedSimpArgs false

theorem toldP_rng (n : Int) : ∀ x ∈ toldP n, 0 ≤ x ∧ x ≤ 255 := by
  intro x hx
  unfold toldP at hx
  split at hx
  · simp only [List.mem_cons, List.not_mem_nil, or_false] at hx
    rcases hx with rfl | rfl | rfl | rfl | rfl | rfl <;> exact bt_range _ _
  · split at hx
    · simp only [List.mem_cons, List.not_mem_nil, or_false] at hx
      rcases hx with rfl | rfl | rfl | rfl | rfl <;> exact bt_range _ _
    · simp only [List.mem_cons, List.not_mem_nil, or_false] at hx
      rcases hx with rfl | rfl | rfl | rfl <;> exact bt_range _ _
theorem toldP_len (n : Int) : (toldP n).length ≤ 6 := by unfold toldP; repeat' split <;> simp
theorem bytes_str : ∀ l : List Int, (∀ x ∈ l, 0 ≤ x ∧ x ≤ 255) → bytesOf (strOfNums l) = l
  | [], _ => rfl
  | x :: l, h => by
    have ih := bytes_str l (fun y hy => h y (List.mem_cons_of_mem _ hy))
    have hx := h x List.mem_cons_self
    have : bytesOf (strOfNums (x :: l)) = ((UInt8.ofNat x.toNat).toNat : Int) :: bytesOf (strOfNums l) := by simp [bytesOf, strOfNums]
    rw [this, ih, UInt8.toNat_ofNat', Nat.mod_eq_of_lt (by omega), Int.toNat_of_nonneg hx.1]
def tailT (x : Sn) : List Int := if x.f1 > x.f0 then 45 :: toldP x.f1 else []
def txt : Bool → List Sn → List Int
  | _, [] => []
  | first, x :: l => (if first = true then [] else [44]) ++ (toldP x.f0 ++ (tailT x ++ txt false l))
theorem text_j {a : List Sn} {len i : Int} {out : List Int} {r : ByteArray × Int} (x : Sn) (h0 : 0 ≤ x.f0) (h1 : x.f0 ≤ x.f1) (h2 : x.f1 ≤ 1114111) (hl : out.length ≤ 1099511627776)
    (h : Ev (fun k => span_Text.l0 k (out ++ (toldP x.f0 ++ tailT x)) a len (wrap64 (i + 1))) r) : Ev (fun k => span_Text.j1 k out a len i x.f0 x.f1) r := by
  have t0 := told_ev h0 (show x.f0 ≤ 1114111 by omega)
  have t1 := told_ev (show 0 ≤ x.f1 by omega) h2
  have b0 := bytes_str (toldP x.f0) (toldP_rng _)
  have b1 := bytes_str (toldP x.f1) (toldP_rng _)
  have l0 := toldP_len x.f0
  have l1 := toldP_len x.f1
  have s0 : (strOfNums (toldP x.f0)).size = (toldP x.f0).length := by rw [← bytesOf_length, b0]
  have s1 : (strOfNums (toldP x.f1)).size = (toldP x.f1).length := by rw [← bytesOf_length, b1]
  refine Ev.step (f := fun k => (span_told.f k x.f0).bind fun t => _) (fun k => by rw [span_Text.j1]) (Ev.bind t0 ?_)
  refine Ev.congr (fun k => if_pos (by omega)) ?_
  rw [b0]
  unfold tailT at h
  simp only [Option.bind_some]
  by_cases c : x.f1 > x.f0
  · rw [if_pos c] at h
    refine Ev.congr (fun k => if_pos c) ?_
    refine Ev.congr (fun k => if_pos (by rw [List.length_append]; omega)) ?_
    refine Ev.bind t1 ?_
    refine Ev.congr (fun k => if_pos (by simp only [List.length_append, List.length_cons, List.length_nil]; omega)) ?_
    rw [b1]
    have e : out ++ toldP x.f0 ++ [45] ++ toldP x.f1 = out ++ (toldP x.f0 ++ 45 :: toldP x.f1) := by simp
    rw [e]
    exact h
  · rw [if_neg c, List.append_nil] at h
    exact Ev.congr (fun k => if_neg c) h

theorem text_l {a : List Sn} (hm : mayL a = true) (hl : a.length ≤ 1048576) : ∀ (d i : Nat) (out : List Int), i + d = a.length → out.length ≤ 14 * i →
    Ev (fun k => span_Text.l0 k out a (a.length : Int) (i : Int)) (strOfNums (out ++ txt (decide (i = 0)) (a.drop i)), 0) := by
  intro d
  induction d with
  | zero =>
    intro i out hi ho
    refine Ev.step (f := fun _ => some _) (fun k => ?_) (Ev.now _)
    rw [span_Text.l0, if_neg (by omega), List.drop_of_length_le (by omega)]
    show _ = some (strOfNums (out ++ []), 0)
    rw [List.append_nil]
  | succ d ih =>
    intro i out hi ho
    have hlt : i < a.length := by omega
    have hx := may_at hm i hlt
    have W1 := w64_succ i a.length hlt (by omega)
    have hd : a.drop i = a[i] :: a.drop (i + 1) := List.drop_eq_getElem_cons hlt
    have l0 := toldP_len a[i].f0
    have lt : (tailT a[i]).length ≤ 7 := by
      have := toldP_len a[i].f1
      unfold tailT
      split
      · simp only [List.length_cons]; omega
      · simp
    rw [hd]
    by_cases c : i = 0
    · subst c
      have h := ih 1 (out ++ (toldP a[0].f0 ++ tailT a[0])) (by omega) (by simp only [List.length_append]; omega)
      have e : out ++ txt (decide ((0 : Nat) = 0)) (a[0] :: a.drop (0 + 1)) = out ++ (toldP a[0].f0 ++ tailT a[0]) ++ txt (decide ((1 : Nat) = 0)) (a.drop 1) := by
        rw [decide_eq_true rfl, decide_eq_false (by decide)]
        show out ++ ([] ++ (toldP a[0].f0 ++ (tailT a[0] ++ txt false (a.drop 1)))) = _
        simp only [List.nil_append, List.append_assoc]
      rw [e]
      refine Ev.step (fun k => ?_) (text_j (a := a) (len := (a.length : Int)) (out := out) (i := ((0 : Nat) : Int)) a[0] hx.1 hx.2.1 hx.2.2 (by omega) (by rw [W1]; exact h))
      rw [span_Text.l0, if_pos (by omega), if_pos (by omega), if_pos (by omega), if_neg (by decide), rdp_eq a 0 hlt]
    · have h := ih (i + 1) (out ++ [44] ++ (toldP a[i].f0 ++ tailT a[i])) (by omega) (by simp only [List.length_append, List.length_cons, List.length_nil]; omega)
      have e : out ++ txt (decide (i = 0)) (a[i] :: a.drop (i + 1)) = out ++ [44] ++ (toldP a[i].f0 ++ tailT a[i]) ++ txt (decide (i + 1 = 0)) (a.drop (i + 1)) := by
        rw [decide_eq_false c, decide_eq_false (by omega)]
        show out ++ ([44] ++ (toldP a[i].f0 ++ (tailT a[i] ++ txt false (a.drop (i + 1))))) = _
        simp only [List.append_assoc]
      rw [e]
      refine Ev.step (fun k => ?_) (text_j (a := a) (len := (a.length : Int)) (out := out ++ [44]) (i := (i : Int)) a[i] hx.1 hx.2.1 hx.2.2 (by simp only [List.length_append, List.length_cons, List.length_nil]; omega) (by rw [W1]; exact h))
      rw [span_Text.l0, if_pos (by omega), if_pos (by omega), if_pos (by omega), if_pos (by omega), if_pos (by omega), rdp_eq a i hlt]
theorem text_ev (a : List Sn) (hl : a.length ≤ 1048576) : Ev (fun k => span_Text.f k a) (if isB (prs a) = true then (strOfNums (txt true a), 0) else (⟨#[]⟩, 70)) := by
  have h1 := isP_ev a (by omega)
  unfold span_Text.f
  cases e : isB (prs a) with
  | false =>
    rw [e] at h1
    exact Ev.bind h1 (Ev.ite_f (Ev.now _))
  | true =>
    rw [e] at h1
    have := text_l (isB_may e).1 hl a.length 0 [] (by omega) (by simp)
    rw [List.drop_zero, List.nil_append] at this
    exact Ev.bind h1 (Ev.ite_t this)

end Go.Proofs.Ytkpdccegamcppaa.PSpan

/-! ### XTextQ: A set as a text: the document's Text. -/
namespace Go.Proofs.Ytkpdccegamcppaa.PSpan
open Go.RowKit Go.Proofs.YtkpdccegamcppaaW.PrintWords Go.Proofs.YtkpdccegamcppaaW.PrintLast Go.Proofs.YtkpdccegamcppaaW.PrintMore Go.Proofs.Ytkpdccegamcppaa.SpanP
set_option linter.unusedVariables false
set_option linter.unusedSimpArgs false

theorem strOf_app : ∀ (a b : List Int), strOfNums a ++ strOfNums b = strOfNums (a ++ b) := fun a b => by
  apply ByteArray.ext
  simp [strOfNums]
theorem strOf_size (l : List Int) : (strOfNums l).size = l.length := by simp [strOfNums, ByteArray.size]
theorem comma_b : (⟨#[44]⟩ : ByteArray) = strOfNums [44] := by decide +kernel
theorem dash_b : (⟨#[45]⟩ : ByteArray) = strOfNums [45] := by decide +kernel
theorem textQ_j {q : List Q} {i : Nat} {out : List Int} {r : ByteArray} (hi : i < q.length) (h0 : 0 ≤ q[i].f0) (h1 : q[i].f0 ≤ q[i].f1) (h2 : q[i].f1 ≤ 1114111) (hl : out.length ≤ 1099511627776) (x : Sn) (hx : q[i] = toR x)
    (h : Ev (fun k => posternref07_Text.l0 k q (strOfNums (out ++ (toldP x.f0 ++ tailT x))) (wrap64 ((i : Int) + 1))) r) : Ev (fun k => posternref07_Text.j1 k q (strOfNums out) (i : Int)) r := by
  have hrd := rdq_eq q i hi
  rw [hx] at hrd h0 h1 h2
  have h0' : 0 ≤ x.f0 := h0
  have h1' : x.f0 ≤ x.f1 := h1
  have h2' : x.f1 ≤ 1114111 := h2
  have t0 := hex_ev h0' (show x.f0 ≤ 1114111 by omega)
  have t1 := hex_ev (show 0 ≤ x.f1 by omega) h2'
  have l0 := toldP_len x.f0
  have l1 := toldP_len x.f1
  unfold tailT at h
  refine Ev.step (f := fun k => (posternref07_Hex.f k x.f0).bind fun t => _) (fun k => by rw [posternref07_Text.j1, if_pos (by omega), if_pos (by omega), hrd]; rfl) (Ev.bind t0 ?_)
  refine Ev.congr (fun k => if_pos (by rw [strOf_size, strOf_size]; omega)) ?_
  by_cases c : x.f1 > x.f0
  · rw [if_pos c] at h
    refine Ev.congr (fun k => if_pos c) ?_
    refine Ev.bind t1 ?_
    refine Ev.congr (fun k => if_pos (by rw [strOf_size]; omega)) ?_
    rw [dash_b, strOf_app, strOf_app, strOf_app]
    refine Ev.congr (fun k => if_pos (by rw [strOf_size, strOf_size]; simp only [List.length_append, List.length_cons, List.length_nil]; omega)) ?_
    have e : out ++ toldP x.f0 ++ ([45] ++ toldP x.f1) = out ++ (toldP x.f0 ++ 45 :: toldP x.f1) := by simp
    rw [e]
    exact h
  · rw [if_neg c, List.append_nil] at h
    refine Ev.congr (fun k => if_neg c) ?_
    rw [strOf_app]
    exact h

theorem textQ_l {a : List Sn} (hm : mayL a = true) (hl : a.length ≤ 1048576) : ∀ (d i : Nat) (out : List Int), i + d = a.length → out.length ≤ 14 * i →
    Ev (fun k => posternref07_Text.l0 k (a.map toR) (strOfNums out) (i : Int)) (strOfNums (out ++ txt (decide (i = 0)) (a.drop i))) := by
  have hml : (a.map toR).length = a.length := List.length_map ..
  intro d
  induction d with
  | zero =>
    intro i out hi ho
    refine Ev.step (f := fun _ => some _) (fun k => ?_) (Ev.now _)
    rw [posternref07_Text.l0, if_neg (by omega), List.drop_of_length_le (by omega)]
    show _ = some (strOfNums (out ++ []))
    rw [List.append_nil]
  | succ d ih =>
    intro i out hi ho
    have hlt : i < a.length := by omega
    have hltq : i < (a.map toR).length := by omega
    have hx := may_at hm i hlt
    have hg : (a.map toR)[i] = toR a[i] := List.getElem_map ..
    have W1 := w64_succ i a.length hlt (by omega)
    have hd : a.drop i = a[i] :: a.drop (i + 1) := List.drop_eq_getElem_cons hlt
    have l0 := toldP_len a[i].f0
    have lt : (tailT a[i]).length ≤ 7 := by
      have := toldP_len a[i].f1
      unfold tailT
      split
      · simp only [List.length_cons]; omega
      · simp
    rw [hd]
    by_cases c : i = 0
    · subst c
      have h := ih 1 (out ++ (toldP a[0].f0 ++ tailT a[0])) (by omega) (by simp only [List.length_append]; omega)
      have e : out ++ txt (decide ((0 : Nat) = 0)) (a[0] :: a.drop (0 + 1)) = out ++ (toldP a[0].f0 ++ tailT a[0]) ++ txt (decide ((1 : Nat) = 0)) (a.drop 1) := by
        rw [decide_eq_true rfl, decide_eq_false (by decide)]
        show out ++ ([] ++ (toldP a[0].f0 ++ (tailT a[0] ++ txt false (a.drop 1)))) = _
        simp only [List.nil_append, List.append_assoc]
      rw [e]
      refine Ev.step (fun k => ?_) (textQ_j (q := a.map toR) (i := 0) (out := out) hltq (by rw [hg]; exact hx.1) (by rw [hg]; exact hx.2.1) (by rw [hg]; exact hx.2.2) (by omega) a[0] hg (by rw [W1]; exact h))
      rw [posternref07_Text.l0, if_pos (by omega), if_neg (by decide)]
    · have h := ih (i + 1) (out ++ [44] ++ (toldP a[i].f0 ++ tailT a[i])) (by omega) (by simp only [List.length_append, List.length_cons, List.length_nil]; omega)
      have e : out ++ txt (decide (i = 0)) (a[i] :: a.drop (i + 1)) = out ++ [44] ++ (toldP a[i].f0 ++ tailT a[i]) ++ txt (decide (i + 1 = 0)) (a.drop (i + 1)) := by
        rw [decide_eq_false c, decide_eq_false (by omega)]
        show out ++ ([44] ++ (toldP a[i].f0 ++ (tailT a[i] ++ txt false (a.drop (i + 1))))) = _
        simp only [List.append_assoc]
      rw [e]
      refine Ev.step (fun k => ?_) (textQ_j (q := a.map toR) (i := i) (out := out ++ [44]) hltq (by rw [hg]; exact hx.1) (by rw [hg]; exact hx.2.1) (by rw [hg]; exact hx.2.2) (by simp only [List.length_append, List.length_cons, List.length_nil]; omega) a[i] hg (by rw [W1]; exact h))
      rw [posternref07_Text.l0, if_pos (by omega), if_pos (by omega), if_pos (by rw [strOf_size]; omega), comma_b, strOf_app]
theorem textQ_ev (a : List Sn) (hl : a.length ≤ 1048576) (h : isB (prs a) = true) : Ev (fun k => posternref07_Text.f k (a.map toR)) (strOfNums (txt true a)) := by
  have := textQ_l (isB_may h).1 hl a.length 0 [] (by omega) (by simp)
  rw [List.drop_zero, List.nil_append] at this
  exact this

end Go.Proofs.Ytkpdccegamcppaa.PSpan

/-! ### XStr: A text byte by byte. -/
namespace Go.Proofs.Ytkpdccegamcppaa.PSpan
open Go.RowKit Go.Proofs.YtkpdccegamcppaaW.PrintWords Go.Proofs.YtkpdccegamcppaaW.PrintLast Go.Proofs.YtkpdccegamcppaaW.PrintMore
set_option linter.unusedVariables false
set_option linter.unusedSimpArgs false

theorem bt_get (s : ByteArray) (i : Nat) (h : i < (bytesOf s).length) : bt s (i : Int) = (bytesOf s)[i] := by
  have h' : i < s.size := by rw [← bytesOf_length]; exact h
  unfold bt
  rw [dif_pos (by rw [Int.toNat_natCast]; exact h')]
  simp only [bytesOf, List.getElem_map, Int.toNat_natCast]
  rfl
theorem str_bytes (s : ByteArray) : strOfNums (bytesOf s) = s := by
  have h : ∀ l : List UInt8, (l.map fun b => (b.toNat : Int)).map (fun x => UInt8.ofNat x.toNat) = l := fun l => by
    rw [List.map_map]
    conv => rhs; rw [← List.map_id l]
    refine List.map_congr_left (fun b _ => ?_)
    simp
  unfold strOfNums bytesOf
  rw [h]

end Go.Proofs.Ytkpdccegamcppaa.PSpan

/-! ### XReadB: What is told is read back, and what is read is told so. -/
namespace Go.Proofs.Ytkpdccegamcppaa.PSpan
open Go.RowKit Go.Proofs.YtkpdccegamcppaaW.PrintWords Go.Proofs.YtkpdccegamcppaaW.PrintLast Go.Proofs.YtkpdccegamcppaaW.PrintMore Go.Proofs.Ytkpdccegamcppaa.SpanP
set_option linter.unusedVariables false
set_option linter.unusedSimpArgs false

theorem told_pos (n : Int) : 4 ≤ (toldP n).length := by unfold toldP; repeat' split <;> simp
/-- What a list of spans tells, from the second on, begins with a comma. -/
theorem rs_told {s : ByteArray} {low i : Int} {x : Sn} {l : List Sn} (hr : Rise low (prs (x :: l))) (hl : 0 ≤ low) (h : Stands s i (toldP x.f0 ++ (tailT x ++ txt false l))) (he : i + ((toldP x.f0 ++ (tailT x ++ txt false l)).length : Int) = (s.size : Int)) :
    rs s low i = (true, x.f0, x.f1, i + ((toldP x.f0 ++ tailT x).length : Int)) := by
  obtain ⟨r1, r2, r3, r4⟩ : low ≤ x.f0 ∧ x.f0 ≤ x.f1 ∧ x.f1 ≤ 1114111 ∧ Rise (x.f1 + 2) (prs l) := hr
  obtain ⟨h1, h2⟩ := Stands.app.1 h
  obtain ⟨h3, h4⟩ := Stands.app.1 h2
  have hend : ∀ j : Int, Stands s j (txt false l) → j + ((txt false l).length : Int) = (s.size : Int) → ¬ j < (s.size : Int) ∨ bt s j = 44 := by
    intro j k1 k2
    cases l with
    | nil => exact .inl (by simp [txt] at k2; omega)
    | cons y l => exact .inr k1.1.2
  have dg44 : dg 44 < 0 := by decide
  have dg45 : dg 45 < 0 := by decide
  unfold rs
  simp only [List.length_append, Int.natCast_add] at he
  by_cases c : x.f1 > x.f0
  · have ht : tailT x = 45 :: toldP x.f1 := if_pos c
    rw [ht] at h3 h4 he ⊢
    obtain ⟨k1, k2⟩ := h3
    obtain ⟨sz, e1, w1⟩ := nm_told (s := s) (least := low) (a := i) (n := x.f0) (by omega) (by omega) r1 h1 (.inr (by rw [k1.2]; exact dg45))
    rw [e1]
    unfold rs1
    rw [if_pos w1]
    unfold rs2
    rw [if_pos ⟨k1.1, k1.2, by show x.f0 < 1114111; omega⟩]
    simp only [List.length_cons, Int.natCast_add] at h4 he
    have hg := hend _ h4 (by omega)
    rw [show i + ((toldP x.f0).length : Int) + (((toldP x.f1).length : Int) + ((1 : Nat) : Int)) = i + ((toldP x.f0).length : Int) + 1 + ((toldP x.f1).length : Int) by omega] at hg
    obtain ⟨sy, e2, w2⟩ := nm_told (s := s) (least := x.f0 + 1) (a := i + ((toldP x.f0).length : Int) + 1) (n := x.f1) (by omega) (by omega) (by omega) k2 (by
      rcases hg with g | g
      · exact .inl g
      · exact .inr (by rw [g]; exact dg44))
    show rs3 x.f0 (nm s (x.f0 + 1) 6 0 0 (i + ((toldP x.f0).length : Int) + 1)) = _
    rw [e2]
    unfold rs3
    rw [if_pos w2]
    show (true, x.f0, x.f1, _) = _
    congr 3
    simp only [List.length_append, List.length_cons, Int.natCast_add]
    omega
  · have ht : tailT x = [] := if_neg c
    rw [ht] at h4 he ⊢
    simp only [List.length_nil] at h4 he
    have hg := hend _ h4 (by omega)
    rw [show i + ((toldP x.f0).length : Int) + ((0 : Nat) : Int) = i + ((toldP x.f0).length : Int) by omega] at hg
    obtain ⟨sz, e1, w1⟩ := nm_told (s := s) (least := low) (a := i) (n := x.f0) (by omega) (by omega) r1 h1 (by
      rcases hg with g | g
      · exact .inl g
      · exact .inr (by rw [g]; exact dg44))
    rw [e1]
    unfold rs1
    rw [if_pos w1]
    unfold rs2
    rw [if_neg (by
      rintro ⟨g1, g2, _⟩
      rcases hg with g | g
      · exact g g1
      · have g2' : bt s (i + ((toldP x.f0).length : Int)) = 45 := g2
        rw [g] at g2'; cases g2')]
    show (true, x.f0, x.f0, _) = _
    rw [List.append_nil, show x.f1 = x.f0 by omega]
theorem parR_told (s : ByteArray) : ∀ (l : List Sn) (f : Nat) (out : List Sn) (low i : Int), l ≠ [] → Rise low (prs l) → 0 ≤ low → 0 ≤ i → Stands s i (txt true l) → i + ((txt true l).length : Int) = (s.size : Int) → (s.size : Int) - i < (f : Int) → out.length + l.length ≤ 65536 →
    parR s f out low i = (out ++ l, 0, 0)
  | [], _, _, _, _, h, _, _, _, _, _, _, _ => absurd rfl h
  | x :: l, 0, _, _, _, _, _, _, _, _, h, hf, _ => by simp at hf; omega
  | x :: l, f + 1, out, low, i, _, hr, hl, h0, hs, he, hf, hn => by
    have h := rs_told hr hl hs he
    have hp := told_pos x.f0
    obtain ⟨r1, r2, r3, r4⟩ : low ≤ x.f0 ∧ x.f0 ≤ x.f1 ∧ x.f1 ≤ 1114111 ∧ Rise (x.f1 + 2) (prs l) := hr
    have hs' : Stands s i (toldP x.f0 ++ (tailT x ++ txt false l)) := hs
    have he' : i + ((toldP x.f0 ++ (tailT x ++ txt false l)).length : Int) = (s.size : Int) := he
    rw [← List.append_assoc] at hs' he'
    obtain ⟨k1, k2⟩ := Stands.app.1 hs'
    rw [List.length_append, Int.natCast_add] at he'
    rw [parR, h]
    unfold parN
    rw [if_pos rfl]
    have e : (⟨x.f0, x.f1⟩ : Sn) = x := rfl
    show (if i + ((toldP x.f0 ++ tailT x).length : Int) = (s.size : Int) then (if ((out ++ [(⟨x.f0, x.f1⟩ : Sn)]).length : Int) > 65536 then ([], 0, 71) else (out ++ [⟨x.f0, x.f1⟩], 0, 0)) else if x.f1 > 1114109 ∨ bt s (i + ((toldP x.f0 ++ tailT x).length : Int)) ≠ 44 then ([], _, 72) else parR s f (out ++ [⟨x.f0, x.f1⟩]) (x.f1 + 2) (i + ((toldP x.f0 ++ tailT x).length : Int) + 1)) = _
    rw [e]
    simp only [List.length_append, List.length_cons, List.length_nil, Int.natCast_add] at hn hp he' ⊢
    cases l with
    | nil =>
      have : (txt false ([] : List Sn)).length = 0 := rfl
      rw [if_pos (by omega), if_neg (by omega)]
    | cons y l =>
      have q1 : x.f1 + 2 ≤ y.f0 ∧ y.f0 ≤ y.f1 ∧ y.f1 ≤ 1114111 ∧ Rise (y.f1 + 2) (prs l) := r4
      have e2 : txt false (y :: l) = 44 :: txt true (y :: l) := rfl
      rw [e2] at k2 he'
      obtain ⟨k3, k4⟩ := k2
      simp only [List.length_append, List.length_cons, Int.natCast_add] at k3 k4 he' hn
      rw [if_neg (by omega), if_neg (by
        rintro (g | g)
        · omega
        · exact g k3.2)]
      rw [parR_told s (y :: l) f (out ++ [x]) (x.f1 + 2) _ (by simp) r4 (by omega) (by omega) k4 (by omega) (by omega) (by simp; omega), List.append_assoc]
      rfl

theorem rs_back {s : ByteArray} {low i : Int} (hl : 0 ≤ low) (h0 : 0 ≤ i) (h1 : i ≤ (s.size : Int)) (hw : (rs s low i).1 = true) :
    Stands s i (toldP (rs s low i).2.1 ++ tailT ⟨(rs s low i).2.1, (rs s low i).2.2.1⟩) ∧ (rs s low i).2.2.2 = i + ((toldP (rs s low i).2.1 ++ tailT ⟨(rs s low i).2.1, (rs s low i).2.2.1⟩).length : Int) := by
  have ha := nm_rng s low 6 0 0 i (by omega) (by omega) (by decide) h1
  have hb := nm_back (s := s) (least := low) h1
  unfold rs at hw ⊢
  generalize nm s low 6 0 0 i = a at ha hb hw ⊢
  unfold rs1 at hw ⊢
  by_cases w : wholeB a.2.2 a.2.1 low = true
  · rw [if_pos w] at hw ⊢
    have hb := hb w
    unfold rs2 at hw ⊢
    by_cases hc : a.1 < (s.size : Int) ∧ bt s a.1 = 45 ∧ a.2.1 < 1114111
    · rw [if_pos hc] at hw ⊢
      have hd := nm_back (s := s) (least := a.2.1 + 1) (a := a.1 + 1) (by omega)
      have hr := nm_rng s (a.2.1 + 1) 6 0 0 (a.1 + 1) (by omega) (by omega) (by decide) (by omega)
      generalize nm s (a.2.1 + 1) 6 0 0 (a.1 + 1) = b at hd hr hw ⊢
      unfold rs3 at hw ⊢
      by_cases v : wholeB b.2.2 b.2.1 (a.2.1 + 1) = true
      · rw [if_pos v] at hw ⊢
        have hd := hd v
        have hwb := whole_rng hr.2.2.2.2 hr.2.2.1 hr.2.2.2.1 v
        have ht : tailT ⟨a.2.1, b.2.1⟩ = 45 :: toldP b.2.1 := if_pos (show b.2.1 > a.2.1 by omega)
        show Stands s i (toldP a.2.1 ++ tailT ⟨a.2.1, b.2.1⟩) ∧ b.1 = i + ((toldP a.2.1 ++ tailT ⟨a.2.1, b.2.1⟩).length : Int)
        rw [ht]
        refine ⟨Stands.app.2 ⟨hb.1, ?_⟩, ?_⟩
        · rw [← hb.2]; exact ⟨⟨hc.1, hc.2.1⟩, hd.1⟩
        · simp only [List.length_append, List.length_cons, Int.natCast_add]; omega
      · rw [if_neg v] at hw; cases hw
    · rw [if_neg hc] at hw ⊢
      have ht : tailT ⟨a.2.1, a.2.1⟩ = [] := if_neg (show ¬ a.2.1 > a.2.1 by omega)
      show Stands s i (toldP a.2.1 ++ tailT ⟨a.2.1, a.2.1⟩) ∧ a.1 = i + ((toldP a.2.1 ++ tailT ⟨a.2.1, a.2.1⟩).length : Int)
      rw [ht, List.append_nil]
      exact hb
  · rw [if_neg w] at hw; cases hw
theorem parR_back (s : ByteArray) : ∀ (f : Nat) (out : List Sn) (low i : Int), 0 ≤ low → 0 ≤ i → i ≤ (s.size : Int) → (s.size : Int) - i < (f : Int) → (parR s f out low i).2.2 = 0 →
    ∃ l, (parR s f out low i).1 = out ++ l ∧ l ≠ [] ∧ Rise low (prs l) ∧ Stands s i (txt true l) ∧ i + ((txt true l).length : Int) = (s.size : Int) ∧ out.length + l.length ≤ 65536 ∧ (parR s f out low i).2.1 = 0 := by
  intro f
  induction f with
  | zero => intro out low i hl h0 h1 hf; omega
  | succ f ih =>
    intro out low i hl h0 h1 hf h
    have hr := rs_rng s hl h0 h1
    have hb := rs_back (s := s) hl h0 h1
    rw [parR] at h ⊢
    generalize rs s low i = r at hr hb h ⊢
    obtain ⟨ok, fr, tt, j⟩ := r
    unfold parN at h ⊢
    cases ok with
    | false => rw [if_neg Bool.false_ne_true] at h; cases h
    | true =>
      rw [if_pos rfl] at h ⊢
      obtain ⟨g1, g2⟩ := hb rfl
      obtain ⟨hr1, hr2, hr3⟩ := hr
      have hr3 := hr3 rfl
      simp only at h g1 g2 hr1 hr2 hr3 ⊢
      by_cases he : j = (s.size : Int)
      · rw [if_pos he] at h ⊢
        by_cases hn : ((out ++ [(⟨fr, tt⟩ : Sn)]).length : Int) > 65536
        · rw [if_pos hn] at h; cases h
        · rw [if_neg hn]
          refine ⟨[⟨fr, tt⟩], rfl, by simp, ⟨hr3.1, hr3.2.1, hr3.2.2, trivial⟩, ?_, ?_, ?_, rfl⟩
          · show Stands s i ([] ++ (toldP fr ++ (tailT ⟨fr, tt⟩ ++ [])))
            rw [List.nil_append, List.append_nil]; exact g1
          · show i + (([] ++ (toldP fr ++ (tailT ⟨fr, tt⟩ ++ []))).length : Int) = _
            rw [List.nil_append, List.append_nil]; omega
          · rw [List.length_append, List.length_singleton] at hn
            simp only [List.length_singleton]; omega
      · rw [if_neg he] at h ⊢
        by_cases hc : tt > 1114109 ∨ bt s j ≠ 44
        · rw [if_pos hc] at h; cases h
        · rw [if_neg hc] at h ⊢
          have hj : bt s j = 44 := Classical.byContradiction fun hne => hc (.inr hne)
          have hto : ¬ tt > 1114109 := fun h' => hc (.inl h')
          obtain ⟨l, k1, k2, k3, k4, k5, k6, k7⟩ := ih _ _ _ (by omega) (by omega) (by omega) (by omega) h
          refine ⟨⟨fr, tt⟩ :: l, ?_, by simp, ⟨hr3.1, hr3.2.1, hr3.2.2, k3⟩, ?_, ?_, ?_, k7⟩
          · rw [k1, List.append_assoc]; rfl
          · cases l with
            | nil => exact absurd rfl k2
            | cons y l =>
              have e : txt true ((⟨fr, tt⟩ : Sn) :: y :: l) = (toldP fr ++ tailT ⟨fr, tt⟩) ++ (44 :: txt true (y :: l)) := by simp [txt]
              rw [e]
              refine Stands.app.2 ⟨g1, ?_⟩
              rw [← g2]
              exact ⟨⟨by omega, hj⟩, k4⟩
          · cases l with
            | nil => exact absurd rfl k2
            | cons y l =>
              have e : txt true ((⟨fr, tt⟩ : Sn) :: y :: l) = (toldP fr ++ tailT ⟨fr, tt⟩) ++ (44 :: txt true (y :: l)) := by simp [txt]
              rw [e, List.length_append, List.length_cons]
              omega
          · rw [List.length_append, List.length_singleton] at k6
            rw [List.length_cons]; omega

theorem txt_rng : ∀ (b : Bool) (l : List Sn), ∀ x ∈ txt b l, 0 ≤ x ∧ x ≤ 255
  | _, [], x, h => by cases h
  | b, y :: l, x, h => by
    simp only [txt, List.mem_append] at h
    rcases h with h | h | h | h
    · cases b with
      | true => rw [if_pos rfl] at h; cases h
      | false =>
        rw [if_neg (by decide)] at h
        simp only [List.mem_cons, List.not_mem_nil, or_false] at h
        omega
    · exact toldP_rng _ x h
    · unfold tailT at h
      split at h
      · rcases List.mem_cons.1 h with h | h
        · omega
        · exact toldP_rng _ x h
      · cases h
    · exact txt_rng false l x h
theorem txt_len : ∀ (b : Bool) (l : List Sn), (txt b l).length ≤ 14 * l.length
  | _, [] => Nat.le_refl _
  | b, y :: l => by
    have h1 := toldP_len y.f0
    have h2 := toldP_len y.f1
    have h3 := txt_len false l
    have h4 : (tailT y).length ≤ 7 := by unfold tailT; split <;> simp; omega
    have h5 : (if b = true then ([] : List Int) else [44]).length ≤ 1 := by cases b <;> simp
    simp only [txt, List.length_append, List.length_cons]
    omega
theorem stands_str : ∀ (l p : List Int), (∀ x ∈ p ++ l, 0 ≤ x ∧ x ≤ 255) → Stands (strOfNums (p ++ l)) (p.length : Int) l
  | [], _, _ => trivial
  | x :: l, p, h => by
    have ih := stands_str l (p ++ [x]) (by simpa using h)
    rw [List.append_assoc, List.length_append, List.length_singleton, Int.natCast_add] at ih
    have hb := bytes_str (p ++ x :: l) h
    have hlt : p.length < (bytesOf (strOfNums (p ++ x :: l))).length := by rw [hb, List.length_append, List.length_cons]; omega
    refine ⟨⟨?_, ?_⟩, ih⟩
    · rw [← bytesOf_length]; omega
    · rw [bt_get _ _ hlt]
      simp only [hb]
      simp
theorem stands_get {s : ByteArray} : ∀ {l : List Int} {i : Int}, Stands s i l → ∀ (t : Nat) (h : t < l.length), bt s (i + (t : Int)) = l[t]
  | [], _, _, t, h => absurd h (Nat.not_lt_zero t)
  | x :: l, i, hs, 0, h => by
    show bt s (i + ((0 : Nat) : Int)) = x
    rw [show i + ((0 : Nat) : Int) = i by omega]
    exact hs.1.2
  | x :: l, i, hs, t + 1, h => by
    have ih := stands_get hs.2 t (by simpa using h)
    rw [show i + 1 + (t : Int) = i + ((t + 1 : Nat) : Int) by omega] at ih
    rw [ih]
    rfl
theorem stands_eq {s : ByteArray} {l : List Int} (h : Stands s 0 l) (hl : (l.length : Int) = (s.size : Int)) : strOfNums l = s := by
  have : bytesOf s = l := by
    refine List.ext_getElem (by rw [bytesOf_length]; omega) (fun t h1 h2 => ?_)
    have := stands_get h t h2
    rw [show (0 : Int) + (t : Int) = (t : Int) by omega, bt_get _ _ h1] at this
    exact this
  rw [← this, str_bytes]
/-- What is told is read back. -/
theorem parse_told {a : List Sn} (h : isB (prs a) = true) : parse (strOfNums (txt true a)) = (a, 0, 0) := by
  have hi := isB_iff.1 h
  have hm := isB_may h
  have hsz : (strOfNums (txt true a)).size = (txt true a).length := by rw [← bytesOf_length, bytes_str _ (txt_rng true a)]
  have hs := stands_str (txt true a) [] (by simpa using txt_rng true a)
  unfold parse
  cases a with
  | nil => rw [if_pos (by rw [hsz]; rfl)]
  | cons x l =>
    have hp : 0 < (txt true (x :: l)).length := by
      have := told_pos x.f0
      simp only [txt, List.length_append]
      omega
    rw [if_neg (by omega)]
    exact parR_told _ (x :: l) _ [] 0 0 (by simp) hi.1 (by omega) (by omega) hs (by omega) (by omega) (by simpa using hm.2)
/-- What is read is told so. -/
theorem parse_back {s : ByteArray} (h : (parse s).2.2 = 0) : isB (prs (parse s).1) = true ∧ strOfNums (txt true (parse s).1) = s ∧ (parse s).2.1 = 0 := by
  unfold parse at h ⊢
  by_cases hz : s.size = 0
  · rw [if_pos hz] at h ⊢
    exact ⟨by decide, stands_eq (s := s) (l := txt true []) trivial (by rw [hz]; rfl), rfl⟩
  · rw [if_neg hz] at h ⊢
    obtain ⟨l, k1, k2, k3, k4, k5, k6, k7⟩ := parR_back s _ [] 0 0 (by omega) (by omega) (by omega) (by omega) h
    rw [k1, List.nil_append]
    refine ⟨isB_iff.2 ⟨k3, by rw [show (prs l).length = l.length from List.length_map ..]; simpa using k6⟩, stands_eq k4 (by omega), k7⟩

end Go.Proofs.Ytkpdccegamcppaa.PSpan
