/- lay: rows laid over a block. -/
import Derived.Test.YtajmbafljncjcaaKeep
import Derived.Test.YtajmbafljncjcaaLayP
namespace Go.Proofs.Ytajmbafljncjcaa.Stage
open Go.RowKit Go.Proofs.YtajmbafljncjcaaW.PrintWords Go.Proofs.YtajmbafljncjcaaW.PrintLast Go.Proofs.YtajmbafljncjcaaW.PrintMore Go.Proofs.Ytajmbafljncjcaa.Mp
set_option linter.unusedVariables false
set_option linter.unusedSimpArgs false
attribute [local go_sem] max_two min_two

/-- Rows as they lie in memory. -/
def RowsAt (w : World) (g o : Nat) (l : List (Nat × Nat × Nat)) : Prop :=
  ∀ i, i < l.length → w.cell? ⟨g, o + i * 3, none⟩ = some (.int .i32 ((l.getD i z3).1 : Nat)) ∧ w.cell? ⟨g, o + i * 3 + 1, none⟩ = some (.int .i32 ((l.getD i z3).2.1 : Nat)) ∧ w.cell? ⟨g, o + i * 3 + 2, none⟩ = some (.int .i64 ((l.getD i z3).2.2 : Nat))

theorem size_Value : (Try.prog.info? 40).map (·.size) = some 3 := by kernel_rfl

structure LaySt (w wr : World) (Nx B : Nat) (nx : Nat) (cur : List Nat) : Prop where
  keep : Keeps (fun k => k = Nx ∨ k = B) w wr
  hN : Blk wr Nx [.int .i64 nx] 3
  hB : Blk wr B (natCells .u16 cur) 91

def LayPost (w : World) (Nx B f : Nat) (l : List (Nat × Nat × Nat)) (cur : List Nat) (e : Ending) (w' : World) : Prop :=
  ∃ laid nx', e = .returned (.bool laid) ∧ (laid = false → layB l f cur = cur) ∧ nx' ≤ l.length ∧ (∀ i, i < nx' → (l.getD i z3).2.1 < f) ∧ LaySt w w' Nx B nx' (layB l f cur)

set_option maxRecDepth 100000 in
set_option maxHeartbeats 800000 in
theorem lay_calls (w : World) (g o cap Nx B f : Nat) (A : Option Addr) (l : List (Nat × Nat × Nat)) (nx : Nat) (cur : List Nat)
    (hA : 0 < l.length → A = some ⟨g, o, none⟩) (hl : l.length ≤ cap) (hr : RiseN 0 l) (hrows : RowsAt w g o l) (hg : 0 < l.length → g ≠ Nx ∧ g ≠ B) (hNB : Nx ≠ B)
    (hnx : nx ≤ l.length) (hpast : ∀ i, i < nx → (l.getD i z3).2.1 < f) (hf : f + 127 ≤ 1114111) (hlen : l.length ≤ 65536)
    (hN : Blk w Nx [.int .i64 nx] 3) (hB : Blk w B (natCells .u16 cur) 91) (hcur : cur.length = 128) :
    Calls Try.prog 60 #[.slice A l.length cap, .pointer (some ⟨Nx, 0, none⟩), .int .i32 (f : Int), .pointer (some ⟨B, 0, none⟩)] w (LayPost w Nx B f l cur) := by
  go_enter Try.func60, Try.ntmps60
  go_upto_block 0 with (fail)
  go_cut [8] from 17 to 38 (fun v wr => v = .bool false ∧ ∃ m, m ≤ l.length ∧ Aside0 (∀ i, i < m → (l.getD i z3).2.1 < f) ∧ Aside0 (m < l.length → f ≤ (l.getD m z3).2.1) ∧ Aside0 (LaySt w wr Nx B m cur))
  case first =>
    go_wp2
    go_loopg [17] (l.length - nx) (fun k v wr => ∃ nx', nx' ≤ l.length ∧ l.length - nx' ≤ k ∧ Aside0 (∀ i, i < nx' → (l.getD i z3).2.1 < f) ∧ Aside0 (LaySt w wr Nx B nx' cur))
    case atStart => exact ⟨nx, hnx, Nat.le_refl _, ⟨hpast⟩, ⟨⟨Keeps.refl _ _, hN, hB⟩⟩⟩
    case round =>
      obtain ⟨m, hm, hgk, hP, hS⟩ := hrel
      have cN := hS.out.hN.cell 0
      have fN := hS.out.hN.free 0
      simp only [List.getElem?_cons_zero] at cN
      by_cases hlt : m < l.length
      · obtain rfl := hA (by omega)
        have hgn := hg (by omega)
        have hrow := hr.at_ m hlt
        have c1 := hS.out.keep.cell (p := ⟨g, o + m * 3 + 1, none⟩) (by simpa using hgn) (hrows m hlt).2.1
        by_cases hto : (l.getD m z3).2.1 < f
        · have hto' : (((l.getD m z3).2.1 : Nat) : Int) < (f : Int) := by omega
          have hS' : LaySt w (wr.setCell ⟨Nx, 0, none⟩ (.int .i64 ((m + 1 : Nat) : Int))) Nx B (m + 1) cur :=
            ⟨hS.out.keep.setCell _ _ (fun _ => .inl rfl), hS.out.hN.set 0 _, hS.out.hB.other (fun e => hNB e.symm) _⟩
          have hP' : ∀ i, i < m + 1 → (l.getD i z3).2.1 < f := fun i hi => by
            rcases Nat.lt_or_ge i m with h | h
            · exact hP.out i h
            · rw [show i = m from by omega]; exact hto
          have HS' := Aside0.mk hS'
          have HP' := Aside0.mk hP'
          clear hS' hP' hgn hrow hS hP
          generalize (l.getD m z3).2.1 = tt at c1 hto hto'
          go_wp2
          go_roundg (gk - 1)
          case measure => omega
          case rel => exact ⟨m + 1, by omega, by omega, HP', HS'⟩
        · have hto' : ¬ (((l.getD m z3).2.1 : Nat) : Int) < (f : Int) := by omega
          have HT := Aside0.mk (show m < l.length → f ≤ (l.getD m z3).2.1 from fun _ => by omega)
          clear hgn hrow 
          generalize (l.getD m z3).2.1 = tt at c1 hto hto'
          go_wp2
          go_meet
          case rel => exact ⟨rfl, m, hm, hP, HT, hS⟩
      · have hme : m = l.length := by omega
        have HT := Aside0.mk (show m < l.length → f ≤ (l.getD m z3).2.1 from fun h => by omega)
        have hge : ¬ (m : Int) < (l.length : Int) := by omega
        clear hme
        go_wp2
        go_meet
        case rel => exact ⟨rfl, m, hm, hP, HT, hS⟩
  case rest =>
    obtain ⟨rfl, m, hm, hP, hT, hS⟩ := hcut
    have cN := hS.out.hN.cell 0
    simp only [List.getElem?_cons_zero] at cN
    obtain ⟨i0, hi0, hz0⟩ := info_size size_Value
    obtain ⟨A', hcutA, hA'⟩ := cut_rows (P := Try.prog) 22 40 3 Try.underlying22 hi0 hz0 A l.length cap m hm hl
    have HA' := Aside0.mk hA'
    clear hA' hi0 hz0
    go_wp2
    go_loopg [10, 45] (l.length - m) (fun k v10 v45 wr => ∃ i laid, i ≤ l.length - m ∧ l.length - m - i ≤ k ∧ v45 = .int .i64 ((i : Nat) : Int) ∧ v10 = .bool laid ∧ Aside0 (laid = false → i = 0) ∧ Aside0 (LaySt w wr Nx B m (layB (l.take (m + i)) f cur)))
    case atStart => exact ⟨0, false, by omega, by omega, rfl, rfl, ⟨fun _ => rfl⟩, ⟨by rw [Nat.add_zero, lay_past hcur hP.out]; exact hS.out⟩⟩
    case round =>
      clear hS cN
      obtain ⟨i, laid, hi, hgk, rfl, rfl, hL, hS⟩ := hrel
      obtain ⟨gko, rfl⟩ : ∃ n : Nat, n = gk := ⟨_, rfl⟩
      have hi0 : (0 : Int) ≤ (i : Int) := Int.natCast_nonneg _
      by_cases hlt : i < l.length - m
      · have hlt' : (i : Int) < ((l.length - m : Nat) : Int) := by omega
        have hAe := hA (by omega)
        obtain rfl := HA'.out g o hAe (by omega)
        have hgn := hg (by omega)
        have hrow := hr.at_ (m + i) (by omega)
        have hcs := hrows (m + i) (by omega)
        have c0 := hS.out.keep.cell (p := ⟨g, o + (m + i) * 3, none⟩) (by simpa using hgn) hcs.1
        have c1 := hS.out.keep.cell (p := ⟨g, o + (m + i) * 3 + 1, none⟩) (by simpa using hgn) hcs.2.1
        have c2 := hS.out.keep.cell (p := ⟨g, o + (m + i) * 3 + 2, none⟩) (by simpa using hgn) hcs.2.2
        rw [show o + (m + i) * 3 = o + m * 3 + i * 3 from by omega] at c0 c1 c2
        have hT : f ≤ (l.getD (m + i) z3).2.1 := by
          have h0 := hT.out (by omega)
          rcases Nat.eq_zero_or_pos i with h1 | h1
          · subst h1; exact h0
          · have := hr.lt m (m + i) (by omega) (by omega)
            omega
        have hE := Aside0.mk (lay_row (cur := cur) (f := f) hr (show m + i < l.length by omega))
        have hR := Aside0.mk (lay_rest (cur := cur) (f := f) (k := m + i) hr)
        rcases hrd : l.getD (m + i) z3 with ⟨F, T, N⟩
        simp only [hrd] at c0 c1 c2 hT hE hR hrow
        clear hcs hAe hrd
        by_cases hF : f + 127 < F
        · have hF' : (f : Int) + 128 - 1 < (F : Int) := by omega
          have hfin : LaySt w (wr.alloc (.cells #[.int .i32 (F : Int), .int .i32 (T : Int), .int .i64 (N : Int)] 40)) Nx B m (layB l f cur) := by
            rw [hR.out (fun _ => hF)]
            exact ⟨hS.out.keep.alloc _, hS.out.hN.alloc _, hS.out.hB.alloc _⟩
          have HF := Aside0.mk hfin
          have HL := Aside0.mk (show laid = false → layB l f cur = cur from fun h => by
            rw [hR.out (fun _ => hF), hL.out h, Nat.add_zero, lay_past hcur hP.out])
          clear hfin hS hR hE
          go_wp2
          go_ret
          exact ⟨laid, m, rfl, HL.out, hm, hP.out, HF.out⟩
        · have hF' : ¬ (f : Int) + 128 - 1 < (F : Int) := by omega
          have hmx := max2_nat .i32 F f
          obtain ⟨p0, hp0⟩ : ∃ p0, p0 = max F f := ⟨_, rfl⟩
          rw [← hp0] at hmx hE
          have HP0 := Aside0.mk hp0
          clear hp0
          go_wp2
          clear hmx
          have hmn : Builtin.min2 (.int .i32 (T : Int)) (.int .i32 ((f : Int) + 128 - 1)) = pure (.int .i32 ((min T (f + 127) : Nat) : Int)) := by
            rw [show ((f : Int) + 128 - 1) = ((f + 127 : Nat) : Int) from by omega]; exact min2_nat _ _ _
          obtain ⟨q0, hq0⟩ : ∃ q0, q0 = min T (f + 127) := ⟨_, rfl⟩
          rw [← hq0] at hmn hE
          have HQ0 := Aside0.mk hq0
          have hpq : p0 ≤ q0 := by have := HP0.out; have := hq0; omega
          have hpf : f ≤ p0 := by have := HP0.out; omega
          have hqf : q0 ≤ f + 127 := by omega
          have hN : N ≤ 65535 := hrow.2.2.2
          have eN : IntKind.u16.wrap (N : Int) = (N : Int) := IntWalk.u16_in _ (by omega)
          clear hq0 c0 c1 c2 hrow
          have hS0 : LaySt w (wr.alloc (.cells #[.int .i32 (F : Int), .int .i32 (T : Int), .int .i64 (N : Int)] 40)) Nx B m (midB (l.take (m + i)) f cur p0 p0 N) := by
            rw [midB_start]
            exact ⟨hS.out.keep.alloc _, hS.out.hN.alloc _, hS.out.hB.alloc _⟩
          have HS0 := Aside0.mk hS0
          have HR0 := Aside0.mk (blk_new wr [.int .i32 (F : Int), .int .i32 (T : Int), .int .i64 (N : Int)] 40)
          have HRB := Aside0.mk (show wr.heap.size ≠ Nx ∧ wr.heap.size ≠ B from ⟨fun e => by have := hS.out.hN.lt; omega, fun e => by have := hS.out.hB.lt; omega⟩)
          clear hS0 hS
          generalize wr.heap.size = R at HR0 HRB
          generalize (wr.alloc (.cells #[.int .i32 (F : Int), .int .i32 (T : Int), .int .i64 (N : Int)] 40)) = W1 at HR0 HS0
          go_loopg [13] (q0 + 1 - p0) (fun k v wq => ∃ p : Nat, p0 ≤ p ∧ p ≤ q0 + 1 ∧ q0 + 1 - p ≤ k ∧ v = .int .i32 (p : Int) ∧ Aside0 (Blk wq R [.int .i32 (F : Int), .int .i32 (T : Int), .int .i64 (N : Int)] 40) ∧ Aside0 (LaySt w wq Nx B m (midB (l.take (m + i)) f cur p0 p N)))
          case atStart => exact ⟨p0, by omega, by omega, by omega, rfl, HR0, HS0⟩
          case round =>
            obtain ⟨p, hp0, hp1, hgk1, rfl, hRq, hSq⟩ := hrel
            have cT := hRq.out.cell 1
            have cN := hRq.out.cell 2
            simp only [List.getElem?_cons_zero, List.getElem?_cons_succ] at cT cN
            by_cases hle : p ≤ q0
            · have hle' : (p : Int) ≤ (q0 : Int) := by omega
              obtain ⟨jj, hj⟩ : ∃ jj, jj = p - f := ⟨_, rfl⟩
              have hj1 : jj < 128 := by omega
              have hj1' : (jj : Int) < 128 := by omega
              have hj0 : (0 : Int) ≤ (jj : Int) := by omega
              have ej : IntKind.i32.wrap ((p : Int) - (f : Int)) = (jj : Int) := by rw [IntWalk.i32_in _ (by omega)]; omega
              have cB := (hSq.out.hB.cell jj).trans (natCells_get _ _ _ (by rw [midB_len]; exact hj1))
              have fB := hSq.out.hB.free jj
              have hS1 : LaySt w ((wr.setCell ⟨B, jj, none⟩ (.int .u16 (N : Int))).drew) Nx B m (midB (l.take (m + i)) f cur p0 (p + 1) N) := by
                refine ⟨(hSq.out.keep.setCell _ _ (fun _ => .inr rfl)).drew, (hSq.out.hN.other (p := ⟨B, jj, none⟩) hNB _).drew, ?_⟩
                have := (hSq.out.hB.set jj (.int .u16 (N : Int))).drew
                rw [natCells_set, hj, midB_step _ _ _ _ _ _ hp0 (by omega) (by omega)] at this
                rw [hj]
                exact this
              have hR1 : Blk ((wr.setCell ⟨B, jj, none⟩ (.int .u16 (N : Int))).drew) R [.int .i32 (F : Int), .int .i32 (T : Int), .int .i64 (N : Int)] 40 := (hRq.out.other (p := ⟨B, jj, none⟩) HRB.out.2 _).drew
              have HS1 := Aside0.mk hS1
              have HR1 := Aside0.mk hR1
              have HJ := Aside0.mk hj
              clear hS1 hR1 hj
              generalize (midB (l.take (m + i)) f cur p0 p N).getD jj 0 = old at cB
              go_wp2
              go_region
              go_wp2
              go_roundg (gk - 1)
              case measure => omega
              case rel => exact ⟨p + 1, by omega, by omega, by omega, by go_num, HR1, HS1⟩
            · have hle' : ¬ (p : Int) ≤ (q0 : Int) := by omega
              obtain rfl : p = q0 + 1 := by omega
              have hS2 : LaySt w wr Nx B m (layB (l.take (m + (i + 1))) f cur) := by
                have := hSq.out
                rw [hE.out] at this
                rw [← Nat.add_assoc]; exact this
              have HS2 := Aside0.mk hS2
              clear hS2 hSq hRq cN
              go_wp2
              go_roundg (gko - 1)
              case measure => omega
              case rel => exact ⟨i + 1, true, by omega, by omega, by go_num, rfl, ⟨fun h => by simp at h⟩, HS2⟩
      · have hlt' : ¬ (i : Int) < ((l.length - m : Nat) : Int) := by omega
        have he : m + i = l.length := by omega
        have hfin : LaySt w wr Nx B m (layB l f cur) := by
          have := hS.out
          rw [he, List.take_length] at this
          exact this
        have HF := Aside0.mk hfin
        have HL := Aside0.mk (show laid = false → layB l f cur = cur from fun h => by
          have := hL.out h
          have h1 : l.take m = l := List.take_of_length_le (by omega)
          have h2 := lay_past (l := l) hcur hP.out
          rw [h1] at h2; exact h2)
        clear hfin hS he
        go_wp2
        go_ret
        exact ⟨laid, m, rfl, HL.out, hm, hP.out, HF.out⟩

end Go.Proofs.Ytajmbafljncjcaa.Stage
