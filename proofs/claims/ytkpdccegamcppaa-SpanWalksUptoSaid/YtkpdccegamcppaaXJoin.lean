/- span.joined: what it comes to. -/
import Derived.Test.YtkpdccegamcppaaXJoinL
import Derived.Test.YtkpdccegamcppaaXSpanP
namespace Go.Proofs.Ytkpdccegamcppaa.PSpan
open Go.RowKit Go.Proofs.YtkpdccegamcppaaW.PrintWords Go.Proofs.YtkpdccegamcppaaW.PrintLast Go.Proofs.YtkpdccegamcppaaW.PrintMore Go.Proofs.Ytkpdccegamcppaa.SpanP
set_option linter.unusedVariables false
set_option linter.unusedSimpArgs false

def pr (x : S50) : Sp := (x.f0, x.f1)
def prs (l : List S50) : List Sp := l.map pr
theorem prs_len (l : List S50) : (prs l).length = l.length := List.length_map ..
theorem prs_inj {a b : List S50} (h : prs a = prs b) : a = b := by
  have hi : ∀ x y : S50, pr x = pr y → x = y := fun x y h => by
    cases x; cases y; simp only [pr, Prod.mk.injEq] at h; rw [h.1, h.2]
  exact List.map_inj_right (fun x y => hi x y) |>.1 h
theorem prs_append (a b : List S50) : prs (a ++ b) = prs a ++ prs b := List.map_append ..
def mayL (l : List S50) : Bool := l.all fun x => decide (may (pr x))
theorem mayL_of {l : List S50} (h : mayL l = true) : ∀ x ∈ l, 0 ≤ x.f0 ∧ x.f0 ≤ x.f1 ∧ x.f1 ≤ 1114111 := fun x hx => by
  have := of_decide_eq_true (List.all_eq_true.1 h x hx)
  exact this
theorem rd_mem (l : List S50) (i : Nat) (h : i < l.length) : rd_T50 l (i : Int) ∈ l := by
  unfold rd_T50
  rw [Int.toNat_natCast, List.getD_eq_getElem?_getD, List.getElem?_eq_getElem h]
  exact List.getElem_mem h
theorem drop_rd (l : List S50) (i : Nat) (h : i < l.length) : l.drop i = rd_T50 l (i : Int) :: l.drop (i + 1) := by
  rw [List.drop_eq_getElem_cons h]
  unfold rd_T50
  rw [Int.toNat_natCast, List.getD_eq_getElem?_getD, List.getElem?_eq_getElem h]
  rfl
theorem take_rd (l : List S50) (i : Nat) (h : i < l.length) : l.take (i + 1) = l.take i ++ [rd_T50 l (i : Int)] := by
  rw [List.take_succ_eq_append_getElem h]
  unfold rd_T50
  rw [Int.toNat_natCast, List.getD_eq_getElem?_getD, List.getElem?_eq_getElem h]
  rfl
theorem snoc_of {l : List S50} (h : 0 < l.length) : ∃ a z, l = a ++ [z] := ⟨l.dropLast, l.getLast (by intro e; rw [e] at h; simp at h), (List.dropLast_concat_getLast _).symm⟩
theorem rd_last (a : List S50) (z : S50) : rd_T50 (a ++ [z]) (((a ++ [z]).length : Int) - 1) = z := by
  unfold rd_T50
  have e : ((((a ++ [z]).length : Int) - 1)).toNat = a.length := by simp only [List.length_append, List.length_cons, List.length_nil]; omega
  rw [e]
  simp [List.getD_eq_getElem?_getD]
theorem set_last (a : List S50) (z y : S50) : (a ++ [z]).set (((a ++ [z]).length : Int) - 1).toNat y = a ++ [y] := by
  have e : ((((a ++ [z]).length : Int) - 1)).toNat = a.length := by simp only [List.length_append, List.length_cons, List.length_nil]; omega
  rw [e]
  simp [List.set_append]

/-- How things stand when some of the spans, in order of their begins, have been joined. -/
structure JInv (l : List S50) (i : Nat) (out : List S50) : Prop where
  rise : Rise 0 (prs out)
  mem : ∀ p, Mem (prs out) p ↔ Mem (prs (l.take i)) p
  len : out.length ≤ i
  last : ∀ a z, out = a ++ [z] → ∀ y ∈ l.drop i, z.f0 ≤ y.f0

theorem joL_l {l : List S50} (hl : l.length ≤ 16777216) (hm : ∀ x ∈ l, 0 ≤ x.f0 ∧ x.f0 ≤ x.f1 ∧ x.f1 ≤ 1114111) (hs : l.Pairwise fun x y => x.f0 ≤ y.f0) :
    ∀ (d k i : Nat) (out : List S50), i + d = l.length → d < k → JInv l i out → ∃ r, joL.l0 k out l (l.length : Int) (i : Int) = some r ∧ JInv l l.length r := by
  intro d
  induction d with
  | zero =>
    intro k i out hi hk h
    obtain ⟨k, rfl⟩ : ∃ m, k = m + 1 := ⟨k - 1, by omega⟩
    obtain rfl : i = l.length := by omega
    refine ⟨out, ?_, h⟩
    simp only [joL.l0]
    rw [if_neg (by omega)]
  | succ d ih =>
    intro k i out hi hk h
    obtain ⟨k, rfl⟩ : ∃ m, k = m + 1 := ⟨k - 1, by omega⟩
    have hlt : i < l.length := by omega
    have hx := hm _ (rd_mem l i hlt)
    have hd := drop_rd l i hlt
    have ht := take_rd l i hlt
    have hsd : (l.drop i).Pairwise fun x y => x.f0 ≤ y.f0 := hs.drop
    rw [hd] at hsd
    have hnext := (List.pairwise_cons.1 hsd).1
    have hw : wrap64 ((i : Int) + 1) = ((i + 1 : Nat) : Int) := by unfold wrap64; omega
    have hlast := h.last
    rw [hd] at hlast
    simp only [joL.l0]
    rw [if_pos (show (i : Int) < (l.length : Int) by omega), if_pos (show (0 : Int) ≤ (i : Int) by omega), if_pos (show (i : Int) < (l.length : Int) by omega), hw]
    generalize hxe : rd_T50 l (i : Int) = x at *
    have hmx : prs (l.take (i + 1)) = prs (l.take i) ++ [pr x] := by rw [ht, prs_append]; rfl
    have hol := h.len
    -- pushed: behind a gap, or the first
    have push : (∀ a z, out = a ++ [z] → z.f1 + 2 ≤ x.f0) → ∃ r, joL.l0 k (out ++ [⟨x.f0, x.f1⟩]) l (l.length : Int) ((i + 1 : Nat) : Int) = some r ∧ JInv l l.length r := fun hg => by
      refine ih k (i + 1) _ (by omega) (by omega) ⟨?_, fun p => ?_, ?_, ?_⟩
      · rw [prs_append]
        refine h.rise.snoc (by show x.f0 ≤ x.f1; omega) (by show x.f1 ≤ 1114111; omega) (by show 0 ≤ x.f0; omega) (fun z hz => ?_)
        by_cases h0 : 0 < out.length
        · obtain ⟨a, y, rfl⟩ := snoc_of h0
          rw [prs_append] at hz
          obtain rfl : pr y = z := by simpa [prs] using hz
          exact hg a y rfl
        · obtain rfl : out = [] := List.eq_nil_of_length_eq_zero (by omega)
          cases hz
      · rw [prs_append, hmx, mem_append, mem_append, h.mem p]
        rfl
      · rw [List.length_append]; simp only [List.length_cons, List.length_nil]; omega
      · intro a z e y hy
        obtain ⟨_, e2⟩ := List.append_inj' e rfl
        obtain rfl : (⟨x.f0, x.f1⟩ : S50) = z := by simpa using e2
        exact hnext y hy
    by_cases h0 : 0 < out.length
    · obtain ⟨a, z, rfl⟩ := snoc_of h0
      have hr := h.rise
      rw [prs_append] at hr
      obtain ⟨r1, r2, r3, r4, r5⟩ := (show Rise 0 (prs a ++ [pr z]) from hr).init
      have r2' : 0 ≤ z.f0 := r2
      have r3' : z.f0 ≤ z.f1 := r3
      have r4' : z.f1 ≤ 1114111 := r4
      have hzx := hlast a z rfl x List.mem_cons_self
      have hwl : wrap64 (((a ++ [z]).length : Int) - 1) = ((a ++ [z]).length : Int) - 1 := by unfold wrap64; omega
      have hw32 : wrap32 (z.f1 + 1) = z.f1 + 1 := by unfold wrap32; omega
      rw [if_pos (show ((a ++ [z]).length : Int) > 0 by omega), hwl, rd_last, set_last, hw32, if_pos (show (0 : Int) ≤ ((a ++ [z]).length : Int) - 1 by omega), if_pos (show ((a ++ [z]).length : Int) - 1 < ((a ++ [z]).length : Int) by omega), if_pos (show (a ++ [z]).length < 17592186044416 by omega)]
      by_cases hj : x.f0 ≤ z.f1 + 1
      · rw [if_pos hj]
        have hmax : mx z.f1 x.f1 ≤ 1114111 ∧ z.f1 ≤ mx z.f1 x.f1 ∧ x.f1 ≤ mx z.f1 x.f1 ∧ (mx z.f1 x.f1 = z.f1 ∨ mx z.f1 x.f1 = x.f1) := by unfold mx; omega
        generalize mx z.f1 x.f1 = m at hmax
        obtain ⟨m1, m2, m3, m4⟩ := hmax
        refine ih k (i + 1) _ (by omega) (by omega) ⟨?_, fun p => ?_, ?_, ?_⟩
        · rw [prs_append]
          exact r1.snoc (by show z.f0 ≤ m; omega) m1 r2 (fun u hu => r5 u (List.mem_of_getLast? hu))
        · rw [hmx, mem_append, ← h.mem p, prs_append, prs_append, mem_append, mem_append]
          show (_ ∨ Mem [(z.f0, m)] p) ↔ (_ ∨ Mem [(z.f0, z.f1)] p) ∨ Mem [(x.f0, x.f1)] p
          rw [mem_cons, mem_cons, mem_cons]
          show (_ ∨ (z.f0 ≤ p ∧ p ≤ m) ∨ _) ↔ (_ ∨ (z.f0 ≤ p ∧ p ≤ z.f1) ∨ _) ∨ (x.f0 ≤ p ∧ p ≤ x.f1) ∨ _
          have hno := mem_nil p
          constructor
          · rintro (k | k | k)
            · exact .inl (.inl k)
            · by_cases hp : p ≤ z.f1
              · exact .inl (.inr (.inl ⟨k.1, hp⟩))
              · exact .inr (.inl (by omega))
            · exact absurd k hno
          · rintro ((k | k | k) | k | k)
            · exact .inl k
            · exact .inr (.inl (by omega))
            · exact absurd k hno
            · exact .inr (.inl (by omega))
            · exact absurd k hno
        · simp only [List.length_append, List.length_cons, List.length_nil] at hol ⊢; omega
        · intro a' z' e y hy
          obtain ⟨_, e2⟩ := List.append_inj' e rfl
          obtain rfl : (⟨z.f0, m⟩ : S50) = z' := by simpa using e2
          have := hlast a z rfl y (List.mem_cons_of_mem _ hy)
          exact this
      · rw [if_neg hj]
        exact push (fun a' z' e => by
          obtain ⟨_, e2⟩ := List.append_inj' e rfl
          obtain rfl : z = z' := by simpa using e2
          omega)
    · obtain rfl : out = [] := List.eq_nil_of_length_eq_zero (by omega)
      rw [if_neg (by simp), if_pos (by simp)]
      exact push (fun a z e => by simp at e)

theorem joL_f {l : List S50} (hl : l.length ≤ 16777216) (hm : ∀ x ∈ l, 0 ≤ x.f0 ∧ x.f0 ≤ x.f1 ∧ x.f1 ≤ 1114111) (hs : l.Pairwise fun x y => x.f0 ≤ y.f0) :
    ∃ r, joL.f (l.length + 1) l = some r ∧ Rise 0 (prs r) ∧ (∀ p, Mem (prs r) p ↔ Mem (prs l) p) ∧ r.length ≤ l.length := by
  obtain ⟨r, h1, h2⟩ := joL_l hl hm hs l.length (l.length + 1) 0 [] (by omega) (by omega) ⟨trivial, fun p => Iff.rfl, Nat.le_refl _, fun a z e => by simp at e⟩
  refine ⟨r, h1, h2.rise, fun p => ?_, h2.len⟩
  have := h2.mem p
  rwa [List.take_length] at this

def sortB (l : List S50) : List S50 := l.mergeSort fun x y => decide (x.f0 ≤ y.f0)
theorem sortB_ok (l : List S50) : SortP l (sortB l) := by
  refine ⟨List.mergeSort_perm _ _, ?_⟩
  have := List.pairwise_mergeSort (le := fun x y : S50 => decide (x.f0 ≤ y.f0)) (fun a b c h1 h2 => by simp at *; omega) (fun a b => by simp; omega) l
  exact this.imp fun h => by simpa using h
theorem mem_perm {a b : List S50} (h : a.Perm b) (p : Int) : Mem (prs a) p ↔ Mem (prs b) p := by
  unfold Mem
  have hp := h.map pr
  constructor
  · rintro ⟨x, hx, k⟩; exact ⟨x, hp.mem_iff.1 hx, k⟩
  · rintro ⟨x, hx, k⟩; exact ⟨x, hp.mem_iff.2 hx, k⟩
def span_joined.f (l0 : List S50) : Option (List S50) := if l0.length ≤ 16777216 ∧ mayL l0 = true then joL.f (l0.length + 1) (sortB l0) else none
theorem span_joined_f {l : List S50} (hl : l.length ≤ 16777216) (hm : mayL l = true) : ∃ r, span_joined.f l = some r ∧ Rise 0 (prs r) ∧ (∀ p, Mem (prs r) p ↔ Mem (prs l) p) ∧ r.length ≤ l.length := by
  have hp := sortB_ok l
  obtain ⟨r, h1, h2, h3, h4⟩ := joL_f (l := sortB l) (by rw [hp.1.length_eq]; exact hl) (fun x hx => mayL_of hm x (hp.1.mem_iff.1 hx)) hp.2
  rw [hp.1.length_eq] at h1 h4
  refine ⟨r, ?_, h2, fun p => (h3 p).trans (mem_perm hp.1 p), h4⟩
  unfold span_joined.f
  rw [if_pos ⟨hl, hm⟩, h1]
theorem span_joined.calls (A0 : Option Addr) (c0 : Nat) (l0 : List S50) (r : List S50) (w : World) (hr0 : Kd.C k50 w A0 l0.length l0) (hc0 : l0.length ≤ c0) (h : span_joined.f l0 = some r) :
    Calls Try.prog 44 #[.slice A0 l0.length c0] w fun e w' => ∃ v0_ : Value, e = .returned (v0_) ∧ Kd.R k50 50 w' w.heap.size (fun _ => True) v0_ r ∧ Below w.heap.size w w' := by
  by_cases hc : l0.length ≤ 16777216 ∧ mayL l0 = true
  · obtain ⟨hl, hm⟩ := hc
    obtain ⟨r', h1, h2, h3, h4⟩ := span_joined_f hl hm
    obtain rfl : r' = r := Option.some.inj (h1.symm.trans h)
    refine joL.calls (l0.length + 1) A0 c0 l0 r' w hr0 hc0 hl (fun l1 hS => ?_)
    obtain ⟨r2, k1, k2, k3, k4⟩ := joL_f (l := l1) (by rw [hS.1.length_eq]; exact hl) (fun x hx => mayL_of hm x (hS.1.mem_iff.1 hx)) hS.2
    rw [hS.1.length_eq] at k1
    rw [k1]
    congr 1
    exact prs_inj (Rise.uniq k2 h2 (fun p => (k3 p).trans ((mem_perm hS.1 p).trans (h3 p).symm)))
  · unfold span_joined.f at h
    rw [if_neg hc] at h
    cases h

end Go.Proofs.Ytkpdccegamcppaa.PSpan
