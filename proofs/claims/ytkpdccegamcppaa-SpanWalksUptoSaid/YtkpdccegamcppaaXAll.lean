/- span.All: what it hands out. -/
import Derived.Test.YtkpdccegamcppaaXAsks
import Derived.RangeFuncNested
namespace Go.Proofs.Ytkpdccegamcppaa.PSpan
open Go.RowKit Go.Proofs.YtkpdccegamcppaaW.PrintWords Go.Proofs.YtkpdccegamcppaaW.PrintLast Go.Proofs.YtkpdccegamcppaaW.PrintMore Go.Proofs.Ytkpdccegamcppaa.SpanP
set_option linter.unusedVariables false
set_option linter.unusedSimpArgs false

theorem in_nil (w : World) : InP none 0 [] w := ⟨⟨rfl, Nat.zero_le _, fun h => absurd h (Nat.lt_irrefl 0)⟩, Nat.zero_le _⟩
/-- A function value over a box that holds a list of spans. -/
def AllPost (w : World) (l : List Sn) (e : Ending) (w' : World) : Prop := ∃ B A c, e = .returned (.func (.func 47) #[] #[.pointer (some ⟨B, 0, none⟩)]) ∧ B < w'.heap.size ∧ w'.cell? ⟨B, 0, none⟩ = some (.slice A l.length c) ∧ InP A c l w' ∧ Below w.heap.size w w'
theorem all_fin {w W w' : World} {g0 : Nat} {v : Value} {l : List Sn} (hB : Below w.heap.size w W) (hg : g0 < W.heap.size) (hge : w.heap.size ≤ g0) (hX : Blk w' g0 [.slice none 0 0] 22 ∨ ∃ x, Blk w' g0 [x] 22)
    (hR : Kd.R k50 50 w' W.heap.size (fun _ => True) v l) (hb : Below W.heap.size W w') : AllPost w l (.returned (.func (.func 47) #[] #[.pointer (some ⟨g0, 0, none⟩)])) (w'.setCell ⟨g0, 0, none⟩ v) := by
  obtain ⟨x, hx⟩ : ∃ x, Blk w' g0 [x] 22 := by
    rcases hX with h | h
    · exact ⟨_, h⟩
    · exact h
  have hg2 : w'.grownBy (w'.setCell ⟨g0, 0, none⟩ v) (some g0) := grownBy_setCell' _ _ _
  have hR2 := Kd.R_grown (Kd.R_bound hR) hg2 (fun k hk e => by cases e; have := hk.2.1; omega)
  obtain ⟨A, c, rfl, hI⟩ := own_P (w := w) (Kd.R_mono hR2 fun _ _ => trivial)
  refine ⟨g0, A, c, rfl, ?_, ?_, hI, ?_⟩
  · have h1 := hb.size
    have h2 : (w'.setCell ⟨g0, 0, none⟩ (.slice A l.length c)).heap.size = w'.heap.size := by simp [World.setCell]
    omega
  · exact (hx.set 0 _).cell 0
  · exact below_set (hB.trans (hb.mono hB.size)) hge

set_option maxRecDepth 100000 in
set_option maxHeartbeats 1600000 in
theorem all_calls (w : World) {A : Option Addr} {c : Nat} {l : List Sn} (h : InP A c l w) (hl : l.length ≤ 1048576) :
    Calls Try.prog 18 #[.slice A l.length c] w (AllPost w (if isB (prs l) = true then l else [])) := by
  have hmf : ∀ (fn : Fn) (first cap : Array Value) (w : World), (Instr.makeFunc fn first cap).run Try.prog w = .ok (.func fn first cap) w := fun _ _ _ _ => rfl
  obtain ⟨r, hr⟩ : ∃ r, (if isB (prs l) = true then l else []) = r := ⟨_, rfl⟩
  rw [hr]
  have HRR := Aside0.mk hr
  clear hr
  obtain ⟨k, hk⟩ := (isP_ev l (by omega)).rounds
  have HIS := Aside0.mk (fun (W : World) (hW : Below w.heap.size w W) => span_Is.calls k A c l (isB (prs l)) W (Kd.C_below h.1 hW) h.2 hk)
  have HCL := Aside0.mk (fun (W : World) (hW : Below w.heap.size w W) => clone_calls W A c l (Kd.C_below h.1 hW) h.2 (by omega))
  have HCN := Aside0.mk (fun (W : World) => clone_calls W none 0 [] (in_nil W).1 (Nat.le_refl _) (by simp))
  have HB0 := Aside0.mk (below_alloc (Below.refl w.heap.size w) (.cells #[.slice A l.length c] 22))
  have HX0 := Aside0.mk (blk_new w [.slice A l.length c] 22)
  have hlt : w.heap.size < (w.alloc (.cells #[.slice A l.length c] 22)).heap.size := by rw [alloc_size]; omega
  clear h hk
  have HX1 := Aside0.mk (fun (W : World) (hW : Below (w.alloc (.cells #[.slice A l.length c] 22)).heap.size (w.alloc (.cells #[.slice A l.length c] 22)) W) => (show Blk W w.heap.size [.slice A l.length c] 22 from (hW.block _ hlt).trans HX0.out))
  clear HX0
  go_enter Try.func18, Try.ntmps18
  go_wp2_with fail
  generalize (w.alloc (.cells #[.slice A l.length c] 22)) = wb at *
  refine (HIS.out _ HB0.out).mono ?_
  rintro e w1 ⟨rfl, hb1⟩
  have HB1 := Aside0.mk (HB0.out.trans (hb1.mono HB0.out.size))
  have hx1 := HX1.out w1 hb1
  have hl1 : w.heap.size < w1.heap.size := Nat.lt_of_lt_of_le hlt hb1.size
  have HXW := Aside0.mk hx1
  clear HIS hb1 HX1
  generalize hg : w.heap.size = g0 at *
  cases hi : isB (prs l) with
  | true =>
    obtain rfl : l = r := by rw [← HRR.out, if_pos hi]
    have c1 := hx1.cell 0
    have f1 := hx1.free 0
    rw [List.getElem?_cons_zero] at c1
    clear hx1
    go_wp2_with fail
    refine (HCL.out _ (by rw [← hg] at HB1 ⊢; exact HB1.out)).mono ?_
    rintro e w2 ⟨v, rfl, hR, hb2⟩
    obtain ⟨A2, c2, rfl⟩ := Kd.R_slice hR
    have hx2 : Blk w2 g0 [.slice A l.length c] 22 := (hb2.block g0 hl1).trans HXW.out
    have k2 := hx2.cell 0
    have f2 := hx2.free 0
    rw [List.getElem?_cons_zero] at k2
    have HF := Aside0.mk (show AllPost w l _ _ from all_fin (g0 := g0) (by rw [← hg] at HB1; exact HB1.out) hl1 (by omega) (.inr ⟨_, hx2⟩) hR hb2)
    clear hx2 hR hb2 HB1 HXW
    go_wp2
    go_ret
    exact HF.out
  | false =>
    obtain rfl : [] = r := by rw [← HRR.out, if_neg (by rw [hi]; decide)]
    have c1 := hx1.cell 0
    have f1 := hx1.free 0
    rw [List.getElem?_cons_zero] at c1
    have hs : (w1.setCell ⟨g0, 0, none⟩ (.slice none 0 0)).heap.size = w1.heap.size := by simp [World.setCell]
    have HB2 := Aside0.mk (show Below w.heap.size w (w1.setCell ⟨g0, 0, none⟩ (.slice none 0 0)) from below_set (by rw [← hg] at HB1; exact HB1.out) (by omega))
    have hx3 := hx1.set 0 (.slice none 0 0)
    have c3 := hx3.cell 0
    have f3 := hx3.free 0
    have HX3 := Aside0.mk hx3
    clear hx1 hx3 HB1 HXW
    go_wp2_with fail
    refine (HCN.out _).mono ?_
    rintro e w2 ⟨v, rfl, hR, hb2⟩
    obtain ⟨A2, c2, rfl⟩ := Kd.R_slice hR
    have hl2 : g0 < (w1.setCell ⟨g0, 0, none⟩ (.slice none 0 0)).heap.size := by omega
    have hx2 : Blk w2 g0 [.slice none 0 0] 22 := (hb2.block g0 hl2).trans HX3.out
    have k2 := hx2.cell 0
    have f2 := hx2.free 0
    rw [List.getElem?_cons_zero] at k2
    have HF := Aside0.mk (show AllPost w [] _ _ from all_fin (g0 := g0) HB2.out hl2 (by omega) (.inl hx2) hR hb2)
    clear hx2 hR hb2 HB2 HX3
    go_wp2
    go_ret
    exact HF.out

end Go.Proofs.Ytkpdccegamcppaa.PSpan
