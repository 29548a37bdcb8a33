/- The document's Put: what it comes te. -/
import Derived.Test.YtkpdccegamcppaaXPut
import Derived.Test.YtkpdccegamcppaaXPutL
namespace Go.Proofs.Ytkpdccegamcppaa.PSpan
open Go.RowKit Go.Proofs.YtkpdccegamcppaaW.PrintWords Go.Proofs.YtkpdccegamcppaaW.PrintLast Go.Proofs.YtkpdccegamcppaaW.PrintMore Go.Proofs.Ytkpdccegamcppaa.SpanP
set_option linter.unusedVariables false
set_option linter.unusedSimpArgs false

def inW (way : Int) (x y : Bool) : Bool := if way = 1 then x && y else if way = 2 then x && !y else if way = 3 then !x && !y else x || y
def PutW (a b : List Sp) (way : Int) (p : Int) : Prop := inW way (hasB a p) (hasB b p) = true
theorem sort_at {e : List Int} (h : SortE e) {y : Int} (hy : y ∈ e) {i : Nat} (hi : i < e.length) : y ≤ e[i] ∨ e.getD (i + 1) 1114112 ≤ y := by
  obtain ⟨j, hj, rfl⟩ := List.getElem_of_mem hy
  by_cases hji : j ≤ i
  · refine .inl ?_
    rcases Nat.lt_or_eq_of_le hji with hlt | rfl
    · exact Int.le_of_lt (List.pairwise_iff_getElem.1 h.lt j i hj hi hlt)
    · exact Int.le_refl _
  · refine .inr ?_
    have h1 : i + 1 < e.length := by omega
    rw [List.getD_eq_getElem?_getD, List.getElem?_eq_getElem h1]
    show e[i + 1] ≤ e[j]
    rcases Nat.lt_or_eq_of_le (show i + 1 ≤ j by omega) with hlt | rfl
    · exact Int.le_of_lt (List.pairwise_iff_getElem.1 h.lt (i + 1) j h1 hj hlt)
    · exact Int.le_refl _
theorem next_ok {e : List Int} (h : SortE e) {i : Nat} (hi : i < e.length) : 0 ≤ e[i] ∧ e[i] < e.getD (i + 1) 1114112 ∧ e.getD (i + 1) 1114112 ≤ 1114112 := by
  have h0 := h.bd _ (List.getElem_mem hi)
  by_cases h1 : i + 1 < e.length
  · rw [List.getD_eq_getElem?_getD, List.getElem?_eq_getElem h1]
    have h2 := h.bd _ (List.getElem_mem h1)
    have h3 := List.pairwise_iff_getElem.1 h.lt i (i + 1) hi h1 (by omega)
    exact ⟨h0.1, h3, by show e[i + 1] ≤ 1114112; omega⟩
  · rw [List.getD_eq_getElem?_getD, List.getElem?_eq_none (by omega)]
    exact ⟨h0.1, by show e[i] < 1114112; omega, Int.le_refl _⟩
theorem seg {e : List Int} (h : SortE e) {a : List Q} (hm : MayQ a) (he : ∀ x ∈ a, x.f0 ∈ e ∧ (x.f1 < 1114111 → x.f1 + 1 ∈ e)) {i : Nat} (hi : i < e.length) {p : Int} (h1 : e[i] ≤ p) (h2 : p < e.getD (i + 1) 1114112) : hasB (qrs a) p = hasB (qrs a) e[i] := by
  have hn := next_ok h hi
  rw [Bool.eq_iff_iff, hasB_iff, hasB_iff]
  unfold Mem qrs
  have key : ∀ x ∈ a, (x.f0 ≤ p ∧ p ≤ x.f1) ↔ (x.f0 ≤ e[i] ∧ e[i] ≤ x.f1) := fun x hx => by
    obtain ⟨k1, k2⟩ := he x hx
    have hb := hm x hx
    have s1 := sort_at h k1 hi
    by_cases hc : x.f1 < 1114111
    · have s2 := sort_at h (k2 hc) hi
      omega
    · omega
  constructor
  · rintro ⟨y, hy, k⟩
    obtain ⟨x, hx, rfl⟩ := List.mem_map.1 hy
    exact ⟨_, hy, (key x hx).1 k⟩
  · rintro ⟨y, hy, k⟩
    obtain ⟨x, hx, rfl⟩ := List.mem_map.1 hy
    exact ⟨_, hy, (key x hx).2 k⟩
theorem rdi_eq (l : List Int) (i : Nat) (h : i < l.length) : rd l (i : Int) = l[i] := by
  unfold rd
  rw [Int.toNat_natCast, List.getD_eq_getElem?_getD, List.getElem?_eq_getElem h]
  rfl
theorem snocQ {l : List Q} (h : 0 < l.length) : ∃ a z, l = a ++ [z] := ⟨l.dropLast, l.getLast (by intro e; rw [e] at h; simp at h), (List.dropLast_concat_getLast _).symm⟩
theorem rdq_last (a : List Q) (z : Q) : rd_T68 (a ++ [z]) (((a ++ [z]).length : Int) - 1) = z := by
  unfold rd_T68
  have e : ((((a ++ [z]).length : Int) - 1)).toNat = a.length := by simp only [List.length_append, List.length_cons, List.length_nil]; omega
  rw [e]
  simp [List.getD_eq_getElem?_getD]
theorem setq_last (a : List Q) (z y : Q) : (a ++ [z]).set (((a ++ [z]).length : Int) - 1).toNat y = a ++ [y] := by
  have e : ((((a ++ [z]).length : Int) - 1)).toNat = a.length := by simp only [List.length_append, List.length_cons, List.length_nil]; omega
  rw [e]
  simp [List.set_append]

theorem w64_succ (i n : Nat) (h : i < n) (hn : n ≤ 4294967296) : wrap64 ((i : Int) + 1) = ((i + 1 : Nat) : Int) := by unfold wrap64; omega
theorem w64_pred (n : Nat) (h : n ≤ 4294967296) : wrap64 ((n : Int) - 1) = (n : Int) - 1 := by unfold wrap64; omega
theorem w32_succ {x : Int} (h : 0 ≤ x) (h1 : x ≤ 1114111) : wrap32 (x + 1) = x + 1 := by unfold wrap32; omega
theorem w32_pred {x : Int} (h : 0 ≤ x) (h1 : x ≤ 1114112) : wrap32 (x - 1) = x - 1 := by unfold wrap32; omega
theorem last_may {o : List Q} {z : Q} (h : Rise 0 (qrs (o ++ [z]))) : 0 ≤ z.f0 ∧ z.f0 ≤ z.f1 ∧ z.f1 ≤ 1114111 := by
  rw [qrs_append] at h
  obtain ⟨_, k2, k3, k4, _⟩ := (show Rise 0 (qrs o ++ [qr z]) from h).init
  exact ⟨k2, k3, k4⟩
/-- What is written of a stretch, and on. -/
theorem put3 {a b : List Q} {way : Int} {e : List Int} {W : Int → Prop} {G : List Q → Prop} {i : Nat} {out : List Q} {ei nx : Int} (hlt : i < e.length) (hel : e.length ≤ 8388616) (hre : rd e (i : Int) = ei) (h0 : 0 ≤ ei) (h1 : ei < nx) (h2 : nx ≤ 1114112) (hl : out.length ≤ i)
    (h : Upto W (qrs out) ei) (ih : ∀ o, o.length ≤ i + 1 → Upto W (qrs o) nx → ∃ r, Ev (fun k => posternref07_Put.l0 k a b way e o ((i + 1 : Nat) : Int)) r ∧ G r) (inb : Bool) (hin : ∀ p, ei ≤ p → p ≤ nx - 1 → (W p ↔ inb = true)) :
    ∃ r, Ev (fun k => posternref07_Put.j3 k a b way e out (i : Int) (nx - 1) inb) r ∧ G r := by
  have hnx : nx - 1 + 1 = nx := by omega
  have HW := Aside0.mk (w64_succ i e.length hlt (by omega))
  have HL := Aside0.mk (w64_pred out.length (by omega))
  have HRE := Aside0.mk hre
  clear hre
  cases inb with
  | false =>
    have hu := h.skip (te := nx - 1) (by omega) (fun p k1 k2 hw => by have := (hin p k1 k2).1 hw; cases this)
    rw [hnx] at hu
    obtain ⟨r, r1, r2⟩ := ih out (by omega) hu
    refine ⟨r, Ev.step (fun k => ?_) r1, r2⟩
    simp only [posternref07_Put.j3]
    rw [if_neg (by decide), HW.out]
  | true =>
    have hw : ∀ p, ei ≤ p → p ≤ nx - 1 → W p := fun p k1 k2 => (hin p k1 k2).2 rfl
    have push : (∀ z, (qrs out).getLast? = some z → z.2 + 1 ≠ ei) → ∃ r, Ev (fun k => posternref07_Put.l0 k a b way e (out ++ [⟨ei, nx - 1⟩]) ((i + 1 : Nat) : Int)) r ∧ G r := fun hg => by
      have hu := h.push (te := nx - 1) h0 (by omega) (by omega) hw hg
      rw [hnx] at hu
      exact ih _ (by rw [List.length_append]; simp only [List.length_cons, List.length_nil]; omega) (by rw [qrs_append]; exact hu)
    by_cases hpos : 0 < out.length
    · obtain ⟨o, z, rfl⟩ := snocQ hpos
      have hz := last_may h.rise
      have HZ := Aside0.mk (w32_succ (x := z.f1) (by omega) hz.2.2)
      have i1 : (i : Int) < (e.length : Int) := by omega
      have i2 : (0 : Int) ≤ (i : Int) := by omega
      have i3 : ((o ++ [z]).length : Int) > 0 := by omega
      have i4 : (0 : Int) ≤ ((o ++ [z]).length : Int) - 1 := by omega
      have i5 : ((o ++ [z]).length : Int) - 1 < ((o ++ [z]).length : Int) := by omega
      have i6 : (o ++ [z]).length < 17592186044416 := by omega
      by_cases hc : z.f1 + 1 = ei
      · have hh := h
        rw [qrs_append] at hh
        have hu := (show Upto W (qrs o ++ [qr z]) ei from hh).grow (te := nx - 1) hc (by omega) (by omega) hw
        rw [hnx] at hu
        obtain ⟨r, r1, r2⟩ := ih (o ++ [⟨z.f0, nx - 1⟩]) (by simp only [List.length_append, List.length_cons, List.length_nil] at hl ⊢; omega) (by rw [qrs_append]; exact hu)
        refine ⟨r, Ev.step (fun k => ?_) r1, r2⟩
        simp only [posternref07_Put.j3]
        rw [if_pos trivial, HL.out, rdq_last, setq_last, HZ.out, HRE.out, HW.out, if_pos i3, if_pos i4, if_pos i5, if_pos i2, if_pos i1, if_pos hc]
      · obtain ⟨r, r1, r2⟩ := push (fun y hy => by
          rw [qrs_append] at hy
          obtain rfl : qr z = y := by simpa [qrs] using hy
          exact hc)
        refine ⟨r, Ev.step (fun k => ?_) r1, r2⟩
        simp only [posternref07_Put.j3]
        rw [if_pos trivial, HL.out, rdq_last, setq_last, HZ.out, HRE.out, HW.out, if_pos i3, if_pos i4, if_pos i5, if_pos i2, if_pos i1, if_neg hc, if_pos i6]
    · obtain rfl : out = [] := List.eq_nil_of_length_eq_zero (by omega)
      obtain ⟨r, r1, r2⟩ := push (fun y hy => by cases hy)
      have i1 : (i : Int) < (e.length : Int) := by omega
      have i2 : (0 : Int) ≤ (i : Int) := by omega
      refine ⟨r, Ev.step (fun k => ?_) r1, r2⟩
      simp only [posternref07_Put.j3]
      rw [if_pos trivial, if_neg (by simp), HRE.out, HW.out, if_pos i2, if_pos i1, if_pos (by simp)]

theorem put_ev {a b : List Q} {way : Int} {e : List Int} (hs : SortE e) (hel : e.length ≤ 8388616) (ha : a.length ≤ 2097152) (hb : b.length ≤ 2097152) (ma : MayQ a) (mb : MayQ b)
    (ea : ∀ x ∈ a, x.f0 ∈ e ∧ (x.f1 < 1114111 → x.f1 + 1 ∈ e)) (eb : ∀ x ∈ b, x.f0 ∈ e ∧ (x.f1 < 1114111 → x.f1 + 1 ∈ e)) :
    ∀ (d i : Nat) (out : List Q), i + d = e.length → out.length ≤ i → Upto (PutW (qrs a) (qrs b) way) (qrs out) (e.getD i 1114112) →
      ∃ r, Ev (fun k => posternref07_Put.l0 k a b way e out (i : Int)) r ∧ Upto (PutW (qrs a) (qrs b) way) (qrs r) 1114112 ∧ r.length ≤ e.length := by
  intro d
  induction d with
  | zero =>
    intro i out hi hl h
    refine ⟨out, Ev.step (f := fun _ => some out) (fun k => ?_) (Ev.now _), ?_, by omega⟩
    · simp only [posternref07_Put.l0]
      rw [if_neg (by omega)]
    · rwa [List.getD_eq_getElem?_getD, List.getElem?_eq_none (by omega)] at h
  | succ d ih =>
    intro i out hi hl h
    have hlt : i < e.length := by omega
    have hn := next_ok hs hlt
    have hsa := fun p => seg hs ma ea hlt (p := p)
    have hsb := fun p => seg hs mb eb hlt (p := p)
    have hge : e.getD i 1114112 = e[i] := by rw [List.getD_eq_getElem?_getD, List.getElem?_eq_getElem hlt]; rfl
    rw [hge] at h
    have hre := rdi_eq e i hlt
    have HWI := Aside0.mk (w64_succ i e.length hlt (by omega))
    have step3 : ∀ (inb : Bool), (∀ p, e[i] ≤ p → p ≤ e.getD (i + 1) 1114112 - 1 → (PutW (qrs a) (qrs b) way p ↔ inb = true)) →
        ∃ r, Ev (fun k => posternref07_Put.j3 k a b way e out (i : Int) (e.getD (i + 1) 1114112 - 1) inb) r ∧ (Upto (PutW (qrs a) (qrs b) way) (qrs r) 1114112 ∧ r.length ≤ e.length) := fun inb hin =>
      put3 hlt hel hre hn.1 hn.2.1 hn.2.2 hl h (fun o ho hu => ih (i + 1) o (by omega) ho hu) inb hin
    -- the ways
    have step2 : ∃ r, Ev (fun k => posternref07_Put.j1 k a b way e out (i : Int) (e.getD (i + 1) 1114112 - 1)) r ∧ (Upto (PutW (qrs a) (qrs b) way) (qrs r) 1114112 ∧ r.length ≤ e.length) := by
      have hxa := has_ev a (by omega) e[i]
      have hxb := has_ev b (by omega) e[i]
      obtain ⟨r, r1, r2⟩ := step3 (inW way (hasB (qrs a) e[i]) (hasB (qrs b) e[i])) (fun p h1 h2 => by
        unfold PutW
        rw [hsa p h1 (Int.lt_of_le_sub_one h2), hsb p h1 (Int.lt_of_le_sub_one h2)])
      generalize e.getD (i + 1) 1114112 - 1 = te at r1 ⊢
      have i1 : (i : Int) < (e.length : Int) := by omega
      have i2 : (0 : Int) ≤ (i : Int) := by omega
      generalize hasB (qrs a) e[i] = x at hxa r1
      generalize hasB (qrs b) e[i] = y at hxb r1
      refine ⟨r, ?_, r2⟩
      have j2 : Ev (fun k => posternref07_Put.j2 k a b way e out (i : Int) te x y (x || y)) r := by
        refine Ev.step (fun k => ?_) r1
        simp only [posternref07_Put.j2]
        unfold inW
        by_cases w1 : way = 1
        · rw [if_pos w1, if_pos w1]; cases x <;> simp
        · rw [if_neg w1, if_neg w1]
          by_cases w2 : way = 2
          · rw [if_pos w2, if_pos w2]; cases x <;> simp
          · rw [if_neg w2, if_neg w2]
            by_cases w3 : way = 3
            · rw [if_pos w3, if_pos w3]; cases x <;> simp
            · rw [if_neg w3, if_neg w3]
      refine Ev.step (f := fun k => (posternref07_Has.f k a e[i]).bind fun t => (posternref07_Has.f k b e[i]).bind fun u => if t = true then posternref07_Put.j2 k a b way e out (i : Int) te t u true else posternref07_Put.j2 k a b way e out (i : Int) te t u u) (fun k => ?_) (Ev.bind hxa (Ev.bind hxb ?_))
      · simp only [posternref07_Put.j1]
        rw [hre, if_pos i2, if_pos i1]
      · cases x with
        | true => simpa using j2
        | false => simpa using j2
    obtain ⟨r, r1, r2⟩ := step2
    refine ⟨r, Ev.step (fun k => ?_) r1, r2⟩
    have i1 : (i : Int) < (e.length : Int) := by omega
    have i2 : (0 : Int) ≤ ((i + 1 : Nat) : Int) := by omega
    by_cases h1 : i + 1 < e.length
    · have i3 : ((i + 1 : Nat) : Int) < (e.length : Int) := by omega
      have hb1 := hs.bd _ (List.getElem_mem h1)
      have hre1 := rdi_eq e (i + 1) h1
      have hg1 : e.getD (i + 1) 1114112 = e[i + 1] := by rw [List.getD_eq_getElem?_getD, List.getElem?_eq_getElem h1]; rfl
      simp only [posternref07_Put.l0]
      rw [HWI.out, hre1, w32_pred hb1.1 (by omega), if_pos i1, if_pos i3, if_pos i2, hg1]
    · have i3 : ¬ ((i + 1 : Nat) : Int) < (e.length : Int) := by omega
      have hg1 : e.getD (i + 1) 1114112 - 1 = 1114111 := by rw [List.getD_eq_getElem?_getD, List.getElem?_eq_none (by omega)]; rfl
      simp only [posternref07_Put.l0]
      rw [HWI.out, if_pos i1, if_neg i3, hg1]

/-- Put: what it makes is a set, of just those code points. -/
theorem put_f (a b : List Q) (way : Int) (ha : a.length ≤ 2097152) (hb : b.length ≤ 2097152) (ma : MayQ a) (mb : MayQ b) :
    ∃ r, Ev (fun k => posternref07_Put.f k a b way) r ∧ Rise 0 (qrs r) ∧ (∀ p, Mem (qrs r) p ↔ (0 ≤ p ∧ p ≤ 1114111 ∧ PutW (qrs a) (qrs b) way p)) ∧ r.length ≤ 1 + 2 * a.length + 2 * b.length := by
  obtain ⟨a1, a2, a3, a4⟩ := edgP_ok a [0] sortE0 ma
  obtain ⟨b1, b2, b3, b4⟩ := edgP_ok b (edgP [0] a) a1 mb
  have he : (edg2 a b).length ≤ 1 + 2 * a.length + 2 * b.length := by unfold edg2; simp only [List.length_cons, List.length_nil] at a2; omega
  have h0 : (0 : Int) ∈ edg2 a b := b3 _ (a3 _ List.mem_cons_self)
  have hpos : 0 < (edg2 a b).length := List.length_pos_of_mem h0
  have hg0 : (edg2 a b).getD 0 1114112 = 0 := by
    rw [List.getD_eq_getElem?_getD, List.getElem?_eq_getElem hpos]
    show (edg2 a b)[0] = 0
    obtain ⟨j, hj, hj2⟩ := List.getElem_of_mem h0
    have hbd := (show SortE (edg2 a b) from b1).bd _ (List.getElem_mem hpos)
    by_cases hz : j = 0
    · subst hz; exact hj2
    · have := List.pairwise_iff_getElem.1 (show SortE (edg2 a b) from b1).lt 0 j hpos hj (by omega)
      omega
  obtain ⟨r, r1, r2, r3⟩ := put_ev (way := way) (show SortE (edg2 a b) from b1) (by omega) ha hb ma mb (fun x hx => ⟨b3 _ (a4 x hx).1, fun h => b3 _ ((a4 x hx).2 h)⟩) b4 (edg2 a b).length 0 [] (by omega) (Nat.le_refl _) (by rw [hg0]; exact Upto.nil _)
  refine ⟨r, Ev.bind (edges_ev a b ha hb ma mb) r1, r2.whole.1, r2.whole.2, by omega⟩

end Go.Proofs.Ytkpdccegamcppaa.PSpan
