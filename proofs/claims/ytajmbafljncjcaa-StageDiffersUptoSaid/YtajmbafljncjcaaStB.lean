/- lay: rows laid over a block. flat: has a block one number alone? Steps over a whole array, over any program. -/
import Derived.Test.YtajmbafljncjcaaStA
import Derived.Deep.AppendLies
import Derived.Deep.MidRow
import Derived.Deep.DrawnRows
import Derived.Deep.RegionLaw
/- ### Lay: lay: rows laid over a block. -/
namespace Go.Proofs.Ytajmbafljncjcaa.Stage
open Go.RowKit Go.Proofs.YtajmbafljncjcaaW.PrintWords Go.Proofs.YtajmbafljncjcaaW.PrintLast Go.Proofs.YtajmbafljncjcaaW.PrintMore Go.Proofs.Ytajmbafljncjcaa.Mp
set_option linter.unusedVariables false
set_option linter.unusedSimpArgs false
attribute [local go_sem] max_two min_two

/-- Rows as they lie in memory. -/
def RowsAt (w : World) (g o : Nat) (l : List (Nat × Nat × Nat)) : Prop :=
  ∀ i, i < l.length → w.cell? ⟨g, o + i * 3, none⟩ = some (.int .i32 ((l.getD i z3).1 : Nat)) ∧ w.cell? ⟨g, o + i * 3 + 1, none⟩ = some (.int .i32 ((l.getD i z3).2.1 : Nat)) ∧ w.cell? ⟨g, o + i * 3 + 2, none⟩ = some (.int .i64 ((l.getD i z3).2.2 : Nat))

theorem size_Value : (Try.prog.info? 40).map (·.size) = some 3 := by kernel_rfl

structure LaySt (w wr : World) (Nx B : Nat) (nx : Nat) (cur : List Nat) : Prop where
  keep : Keeps (fun k => k = Nx ∨ k = B) w wr
  hN : Blk wr Nx [.int .i64 nx] 3
  hB : Blk wr B (natCells .u16 cur) 91

def LayPost (w : World) (Nx B f : Nat) (l : List (Nat × Nat × Nat)) (cur : List Nat) (e : Ending) (w' : World) : Prop :=
  ∃ laid nx', e = .returned (.bool laid) ∧ (laid = false → layB l f cur = cur) ∧ nx' ≤ l.length ∧ (∀ i, i < nx' → (l.getD i z3).2.1 < f) ∧ LaySt w w' Nx B nx' (layB l f cur)

set_option maxRecDepth 100000 in
set_option maxHeartbeats 800000 in
theorem lay_calls (w : World) (g o cap Nx B f : Nat) (A : Option Addr) (l : List (Nat × Nat × Nat)) (nx : Nat) (cur : List Nat)
    (hA : 0 < l.length → A = some ⟨g, o, none⟩) (hl : l.length ≤ cap) (hr : RiseN 0 l) (hrows : RowsAt w g o l) (hg : 0 < l.length → g ≠ Nx ∧ g ≠ B) (hNB : Nx ≠ B)
    (hnx : nx ≤ l.length) (hpast : ∀ i, i < nx → (l.getD i z3).2.1 < f) (hf : f + 127 ≤ 1114111) (hlen : l.length ≤ 65536)
    (hN : Blk w Nx [.int .i64 nx] 3) (hB : Blk w B (natCells .u16 cur) 91) (hcur : cur.length = 128) :
    Calls Try.prog 60 #[.slice A l.length cap, .pointer (some ⟨Nx, 0, none⟩), .int .i32 (f : Int), .pointer (some ⟨B, 0, none⟩)] w (LayPost w Nx B f l cur) := by
  go_enter Try.func60, Try.ntmps60
  go_upto_block 0 with (fail)
  go_cut [8] from 17 to 38 (fun v wr => v = .bool false ∧ ∃ m, m ≤ l.length ∧ Aside0 (∀ i, i < m → (l.getD i z3).2.1 < f) ∧ Aside0 (m < l.length → f ≤ (l.getD m z3).2.1) ∧ Aside0 (LaySt w wr Nx B m cur))
  case first =>
    go_wp2
    go_loopg [17] (l.length - nx) (fun k v wr => ∃ nx', nx' ≤ l.length ∧ l.length - nx' ≤ k ∧ Aside0 (∀ i, i < nx' → (l.getD i z3).2.1 < f) ∧ Aside0 (LaySt w wr Nx B nx' cur))
    case atStart => exact ⟨nx, hnx, Nat.le_refl _, ⟨hpast⟩, ⟨⟨Keeps.refl _ _, hN, hB⟩⟩⟩
    case round =>
      obtain ⟨m, hm, hgk, hP, hS⟩ := hrel
      have cN := hS.out.hN.cell 0
      have fN := hS.out.hN.free 0
      simp only [List.getElem?_cons_zero] at cN
      by_cases hlt : m < l.length
      · obtain rfl := hA (by omega)
        have hgn := hg (by omega)
        have hrow := hr.at_ m hlt
        have c1 := hS.out.keep.cell (p := ⟨g, o + m * 3 + 1, none⟩) (by simpa using hgn) (hrows m hlt).2.1
        by_cases hto : (l.getD m z3).2.1 < f
        · have hto' : (((l.getD m z3).2.1 : Nat) : Int) < (f : Int) := by omega
          have hS' : LaySt w (wr.setCell ⟨Nx, 0, none⟩ (.int .i64 ((m + 1 : Nat) : Int))) Nx B (m + 1) cur :=
            ⟨hS.out.keep.setCell _ _ (fun _ => .inl rfl), hS.out.hN.set 0 _, hS.out.hB.other (fun e => hNB e.symm) _⟩
          have hP' : ∀ i, i < m + 1 → (l.getD i z3).2.1 < f := fun i hi => by
            rcases Nat.lt_or_ge i m with h | h
            · exact hP.out i h
            · rw [show i = m from by omega]; exact hto
          have HS' := Aside0.mk hS'
          have HP' := Aside0.mk hP'
          clear hS' hP' hgn hrow hS hP
          generalize (l.getD m z3).2.1 = tt at c1 hto hto'
          go_wp2
          go_roundg (gk - 1)
          case measure => omega
          case rel => exact ⟨m + 1, by omega, by omega, HP', HS'⟩
        · have hto' : ¬ (((l.getD m z3).2.1 : Nat) : Int) < (f : Int) := by omega
          have HT := Aside0.mk (show m < l.length → f ≤ (l.getD m z3).2.1 from fun _ => by omega)
          clear hgn hrow 
          generalize (l.getD m z3).2.1 = tt at c1 hto hto'
          go_wp2
          go_meet
          case rel => exact ⟨rfl, m, hm, hP, HT, hS⟩
      · have hme : m = l.length := by omega
        have HT := Aside0.mk (show m < l.length → f ≤ (l.getD m z3).2.1 from fun h => by omega)
        have hge : ¬ (m : Int) < (l.length : Int) := by omega
        clear hme
        go_wp2
        go_meet
        case rel => exact ⟨rfl, m, hm, hP, HT, hS⟩
  case rest =>
    obtain ⟨rfl, m, hm, hP, hT, hS⟩ := hcut
    have cN := hS.out.hN.cell 0
    simp only [List.getElem?_cons_zero] at cN
    obtain ⟨i0, hi0, hz0⟩ := info_size size_Value
    obtain ⟨A', hcutA, hA'⟩ := cut_rows (P := Try.prog) 22 40 3 Try.underlying22 hi0 hz0 A l.length cap m hm hl
    have HA' := Aside0.mk hA'
    clear hA' hi0 hz0
    go_wp2
    go_loopg [10, 45] (l.length - m) (fun k v10 v45 wr => ∃ i laid, i ≤ l.length - m ∧ l.length - m - i ≤ k ∧ v45 = .int .i64 ((i : Nat) : Int) ∧ v10 = .bool laid ∧ Aside0 (laid = false → i = 0) ∧ Aside0 (LaySt w wr Nx B m (layB (l.take (m + i)) f cur)))
    case atStart => exact ⟨0, false, by omega, by omega, rfl, rfl, ⟨fun _ => rfl⟩, ⟨by rw [Nat.add_zero, lay_past hcur hP.out]; exact hS.out⟩⟩
    case round =>
      clear hS cN
      obtain ⟨i, laid, hi, hgk, rfl, rfl, hL, hS⟩ := hrel
      obtain ⟨gko, rfl⟩ : ∃ n : Nat, n = gk := ⟨_, rfl⟩
      have hi0 : (0 : Int) ≤ (i : Int) := Int.natCast_nonneg _
      by_cases hlt : i < l.length - m
      · have hlt' : (i : Int) < ((l.length - m : Nat) : Int) := by omega
        have hAe := hA (by omega)
        obtain rfl := HA'.out g o hAe (by omega)
        have hgn := hg (by omega)
        have hrow := hr.at_ (m + i) (by omega)
        have hcs := hrows (m + i) (by omega)
        have c0 := hS.out.keep.cell (p := ⟨g, o + (m + i) * 3, none⟩) (by simpa using hgn) hcs.1
        have c1 := hS.out.keep.cell (p := ⟨g, o + (m + i) * 3 + 1, none⟩) (by simpa using hgn) hcs.2.1
        have c2 := hS.out.keep.cell (p := ⟨g, o + (m + i) * 3 + 2, none⟩) (by simpa using hgn) hcs.2.2
        rw [show o + (m + i) * 3 = o + m * 3 + i * 3 from by omega] at c0 c1 c2
        have hT : f ≤ (l.getD (m + i) z3).2.1 := by
          have h0 := hT.out (by omega)
          rcases Nat.eq_zero_or_pos i with h1 | h1
          · subst h1; exact h0
          · have := hr.lt m (m + i) (by omega) (by omega)
            omega
        have hE := Aside0.mk (lay_row (cur := cur) (f := f) hr (show m + i < l.length by omega))
        have hR := Aside0.mk (lay_rest (cur := cur) (f := f) (k := m + i) hr)
        rcases hrd : l.getD (m + i) z3 with ⟨F, T, N⟩
        simp only [hrd] at c0 c1 c2 hT hE hR hrow
        clear hcs hAe hrd
        by_cases hF : f + 127 < F
        · have hF' : (f : Int) + 128 - 1 < (F : Int) := by omega
          have hfin : LaySt w (wr.alloc (.cells #[.int .i32 (F : Int), .int .i32 (T : Int), .int .i64 (N : Int)] 40)) Nx B m (layB l f cur) := by
            rw [hR.out (fun _ => hF)]
            exact ⟨hS.out.keep.alloc _, hS.out.hN.alloc _, hS.out.hB.alloc _⟩
          have HF := Aside0.mk hfin
          have HL := Aside0.mk (show laid = false → layB l f cur = cur from fun h => by
            rw [hR.out (fun _ => hF), hL.out h, Nat.add_zero, lay_past hcur hP.out])
          clear hfin hS hR hE
          go_wp2
          go_ret
          exact ⟨laid, m, rfl, HL.out, hm, hP.out, HF.out⟩
        · have hF' : ¬ (f : Int) + 128 - 1 < (F : Int) := by omega
          have hmx := max2_nat .i32 F f
          obtain ⟨p0, hp0⟩ : ∃ p0, p0 = max F f := ⟨_, rfl⟩
          rw [← hp0] at hmx hE
          have HP0 := Aside0.mk hp0
          clear hp0
          go_wp2
          clear hmx
          have hmn : Builtin.min2 (.int .i32 (T : Int)) (.int .i32 ((f : Int) + 128 - 1)) = pure (.int .i32 ((min T (f + 127) : Nat) : Int)) := by
            rw [show ((f : Int) + 128 - 1) = ((f + 127 : Nat) : Int) from by omega]; exact min2_nat _ _ _
          obtain ⟨q0, hq0⟩ : ∃ q0, q0 = min T (f + 127) := ⟨_, rfl⟩
          rw [← hq0] at hmn hE
          have HQ0 := Aside0.mk hq0
          have hpq : p0 ≤ q0 := by have := HP0.out; have := hq0; omega
          have hpf : f ≤ p0 := by have := HP0.out; omega
          have hqf : q0 ≤ f + 127 := by omega
          have hN : N ≤ 65535 := hrow.2.2.2
          have eN : IntKind.u16.wrap (N : Int) = (N : Int) := IntWalk.u16_in _ (by omega)
          clear hq0 c0 c1 c2 hrow
          have hS0 : LaySt w (wr.alloc (.cells #[.int .i32 (F : Int), .int .i32 (T : Int), .int .i64 (N : Int)] 40)) Nx B m (midB (l.take (m + i)) f cur p0 p0 N) := by
            rw [midB_start]
            exact ⟨hS.out.keep.alloc _, hS.out.hN.alloc _, hS.out.hB.alloc _⟩
          have HS0 := Aside0.mk hS0
          have HR0 := Aside0.mk (blk_new wr [.int .i32 (F : Int), .int .i32 (T : Int), .int .i64 (N : Int)] 40)
          have HRB := Aside0.mk (show wr.heap.size ≠ Nx ∧ wr.heap.size ≠ B from ⟨fun e => by have := hS.out.hN.lt; omega, fun e => by have := hS.out.hB.lt; omega⟩)
          clear hS0 hS
          generalize wr.heap.size = R at HR0 HRB
          generalize (wr.alloc (.cells #[.int .i32 (F : Int), .int .i32 (T : Int), .int .i64 (N : Int)] 40)) = W1 at HR0 HS0
          go_loopg [13] (q0 + 1 - p0) (fun k v wq => ∃ p : Nat, p0 ≤ p ∧ p ≤ q0 + 1 ∧ q0 + 1 - p ≤ k ∧ v = .int .i32 (p : Int) ∧ Aside0 (Blk wq R [.int .i32 (F : Int), .int .i32 (T : Int), .int .i64 (N : Int)] 40) ∧ Aside0 (LaySt w wq Nx B m (midB (l.take (m + i)) f cur p0 p N)))
          case atStart => exact ⟨p0, by omega, by omega, by omega, rfl, HR0, HS0⟩
          case round =>
            obtain ⟨p, hp0, hp1, hgk1, rfl, hRq, hSq⟩ := hrel
            have cT := hRq.out.cell 1
            have cN := hRq.out.cell 2
            simp only [List.getElem?_cons_zero, List.getElem?_cons_succ] at cT cN
            by_cases hle : p ≤ q0
            · have hle' : (p : Int) ≤ (q0 : Int) := by omega
              obtain ⟨jj, hj⟩ : ∃ jj, jj = p - f := ⟨_, rfl⟩
              have hj1 : jj < 128 := by omega
              have hj1' : (jj : Int) < 128 := by omega
              have hj0 : (0 : Int) ≤ (jj : Int) := by omega
              have ej : IntKind.i32.wrap ((p : Int) - (f : Int)) = (jj : Int) := by rw [IntWalk.i32_in _ (by omega)]; omega
              have cB := (hSq.out.hB.cell jj).trans (natCells_get _ _ _ (by rw [midB_len]; exact hj1))
              have fB := hSq.out.hB.free jj
              have hS1 : LaySt w ((wr.setCell ⟨B, jj, none⟩ (.int .u16 (N : Int))).drew) Nx B m (midB (l.take (m + i)) f cur p0 (p + 1) N) := by
                refine ⟨(hSq.out.keep.setCell _ _ (fun _ => .inr rfl)).drew, (hSq.out.hN.other (p := ⟨B, jj, none⟩) hNB _).drew, ?_⟩
                have := (hSq.out.hB.set jj (.int .u16 (N : Int))).drew
                rw [natCells_set, hj, midB_step _ _ _ _ _ _ hp0 (by omega) (by omega)] at this
                rw [hj]
                exact this
              have hR1 : Blk ((wr.setCell ⟨B, jj, none⟩ (.int .u16 (N : Int))).drew) R [.int .i32 (F : Int), .int .i32 (T : Int), .int .i64 (N : Int)] 40 := (hRq.out.other (p := ⟨B, jj, none⟩) HRB.out.2 _).drew
              have HS1 := Aside0.mk hS1
              have HR1 := Aside0.mk hR1
              have HJ := Aside0.mk hj
              clear hS1 hR1 hj
              generalize (midB (l.take (m + i)) f cur p0 p N).getD jj 0 = old at cB
              go_wp2
              go_region
              go_wp2
              go_roundg (gk - 1)
              case measure => omega
              case rel => exact ⟨p + 1, by omega, by omega, by omega, by go_num, HR1, HS1⟩
            · have hle' : ¬ (p : Int) ≤ (q0 : Int) := by omega
              obtain rfl : p = q0 + 1 := by omega
              have hS2 : LaySt w wr Nx B m (layB (l.take (m + (i + 1))) f cur) := by
                have := hSq.out
                rw [hE.out] at this
                rw [← Nat.add_assoc]; exact this
              have HS2 := Aside0.mk hS2
              clear hS2 hSq hRq cN
              go_wp2
              go_roundg (gko - 1)
              case measure => omega
              case rel => exact ⟨i + 1, true, by omega, by omega, by go_num, rfl, ⟨fun h => by simp at h⟩, HS2⟩
      · have hlt' : ¬ (i : Int) < ((l.length - m : Nat) : Int) := by omega
        have he : m + i = l.length := by omega
        have hfin : LaySt w wr Nx B m (layB l f cur) := by
          have := hS.out
          rw [he, List.take_length] at this
          exact this
        have HF := Aside0.mk hfin
        have HL := Aside0.mk (show laid = false → layB l f cur = cur from fun h => by
          have := hL.out h
          have h1 : l.take m = l := List.take_of_length_le (by omega)
          have h2 := lay_past (l := l) hcur hP.out
          rw [h1] at h2; exact h2)
        clear hfin hS he
        go_wp2
        go_ret
        exact ⟨laid, m, rfl, HL.out, hm, hP.out, HF.out⟩

end Go.Proofs.Ytajmbafljncjcaa.Stage

/- ### Flat: flat: has a block one number alone? -/
namespace Go.Proofs.Ytajmbafljncjcaa.Stage
open Go.RowKit Go.Proofs.YtajmbafljncjcaaW.PrintWords Go.Proofs.YtajmbafljncjcaaW.PrintLast Go.Proofs.YtajmbafljncjcaaW.PrintMore
set_option linter.unusedVariables false
set_option linter.unusedSimpArgs false

theorem flatB_true {xs : List Nat} (h : ∀ j, j < 128 → xs.getD j 0 = xs.getD 0 0) : flatB xs = true := by
  unfold flatB
  rw [List.all_eq_true]
  intro j hj
  have h1 := List.mem_range.1 hj
  simpa using h j h1
theorem flatB_false {xs : List Nat} {j : Nat} (hj : j < 128) (h : ¬ xs.getD j 0 = xs.getD 0 0) : flatB xs = false := by
  unfold flatB
  rw [List.all_eq_false]
  exact ⟨j, List.mem_range.2 hj, by simpa using h⟩

set_option maxRecDepth 100000 in
set_option maxHeartbeats 400000 in
theorem flat_calls (w : World) (B : Nat) (xs : List Nat) (hc : ∀ j, j < 128 → w.cell? ⟨B, j, none⟩ = some (.int .u16 (xs.getD j 0 : Nat))) :
    Calls Try.prog 92 #[.pointer (some ⟨B, 0, none⟩)] w fun e w' => e = .returned (.bool (flatB xs)) ∧ w = w' := by
  have h0 := hc 0 (by omega)
  have HC := Aside0.mk hc
  clear hc
  go_enter Try.func92, Try.ntmps92
  go_wp2
  go_loop [6] (fun i => ∃ k : Nat, k ≤ 128 ∧ i = .int .i64 k ∧ Aside0 (∀ j, j < k → xs.getD j 0 = xs.getD 0 0)) (fun i => 128 - (intOf i).toNat)
  case atStart => exact ⟨0, by omega, rfl, ⟨fun j hj => by omega⟩⟩
  case round =>
    obtain ⟨k, hk, rfl, hA⟩ := hrel
    by_cases hlt : k < 128
    · have hck := HC.out k hlt
      have hlt' : (k : Int) < 128 := by omega
      by_cases he : xs.getD k 0 = xs.getD 0 0
      · rw [he] at hck
        have HE := Aside0.mk he
        clear he
        go_wp2
        go_round
        case rel => exact ⟨k + 1, by omega, by go_num, ⟨fun j hj => by
          rcases Nat.lt_or_ge j k with h | h
          · exact hA.out j h
          · have : j = k := by omega
            rw [this]; exact HE.out⟩⟩
        case measure => simp [intOf]; omega
      · have hF := Aside0.mk (flatB_false hlt he)
        have hne : ¬ ((xs.getD k 0 : Nat) : Int) = ((xs.getD 0 0 : Nat) : Int) := by omega
        generalize xs.getD 0 0 = x0 at h0 hne
        generalize xs.getD k 0 = xk at hck hne
        clear he
        go_wp2
        go_ret
        exact ⟨by rw [hF.out]; rfl, rfl⟩
    · have hF := Aside0.mk (flatB_true (fun j hj => hA.out j (by omega)))
      have hge : ¬ (k : Int) < 128 := by omega
      go_wp2
      go_ret
      exact ⟨by rw [hF.out]; rfl, rfl⟩

end Go.Proofs.Ytajmbafljncjcaa.Stage

/- ### Step: Steps over a whole array, over any program. -/
namespace Go.Proofs.Ytajmbafljncjcaa.Mp
open Go.RowKit Go.Proofs.YtajmbafljncjcaaW.PrintWords
set_option linter.unusedVariables false
set_option linter.unusedSimpArgs false

variable {P : Program} {ops : Array Oper} {rest : List Oper} {o : Oper} {a : Act} {w : World} {Q : Exit → Act → World → Prop}

theorem sizeOf_run {e n : Nat} (h : (P.info? e).map (·.size) = some n) (w : World) : (sizeOf e).run P w = .ok n w := by
  obtain ⟨i, hi, hn⟩ := Option.map_eq_some_iff.1 h
  simp [sizeOf, typeInfo, hi, hn]
theorem zeroValue_run {e : Nat} {z : Value} (h : (P.info? e).map (·.zero) = some (some z)) (w : World) : (zeroValue e).run P w = .ok z w := by
  obtain ⟨i, hi, hn⟩ := Option.map_eq_some_iff.1 h
  simp [zeroValue, typeInfo, hi, hn]
/-- A whole block, read. -/
theorem wpList_load_blk (hgd : o.guard = none) (ty : TypeId) (x : Operand) (ho : o.op = .load ty x) (b : Nat) (hx : a.eval x = .pointer (some ⟨b, 0, none⟩)) (t : TypeId) (cs : List Value) (d : TypeDesc) (hb : Blk w b cs t)
    (hu : P.underlying ty = some d) (hd : (match d with | .struct _ | .array _ _ => true | _ => false) = true) (hi : (P.info? ty).map (·.size) = some cs.length)
    (h : wpList P ops Q rest (a.put o.dst (.agg cs.toArray)) w) : wpList P ops Q (o :: rest) a w :=
  wpList_load_row hgd ty x ho b hx t cs.toArray (0, 0) d hb hu hd (by simpa using hi) h

theorem run_storeVar_blk (ty : TypeId) (b : Nat) (t : TypeId) (cs cs' : List Value) (hb : Blk w b cs t) (hl : cs'.length = cs.length) (hi : (P.info? ty).map (·.size) = some cs.length) (h1 : ∀ v ∈ cs', v.oneCell' = true) :
    (storeVar ty ⟨b, 0, none⟩ (.agg cs'.toArray)).run P w = .ok () (w.setRow b cs'.toArray) := by
  have hs := run_storeCells_at (P := P) b 0 t cs' 0 cs.toArray w hb (by simp; omega) h1
  have e : (cs.toArray.toList.take (0 + 0) ++ cs' ++ cs.toArray.toList.drop (0 + 0 + cs'.length)).toArray = cs'.toArray := by
    simp [List.drop_of_length_le (show cs.length ≤ cs'.length by omega)]
  rw [e] at hs
  cases hq : P.info? ty with
  | none => simp [hq] at hi
  | some i =>
    have hz : i.size = cs.length := by simpa [hq] using hi
    simp [storeVar, sizeOf, typeInfo, hq, Value.cells, hz, hl, hs]

/-- A whole block, written. -/
theorem wpList_store_blk (hgd : o.guard = none) (ty : TypeId) (x y : Operand) (ho : o.op = .store ty x y) (b : Nat) (hx : a.eval x = .pointer (some ⟨b, 0, none⟩)) (t : TypeId) (cs cs' : List Value) (hy : a.eval y = .agg cs'.toArray) (hb : Blk w b cs t)
    (hl : cs'.length = cs.length) (hi : (P.info? ty).map (·.size) = some cs.length) (h1 : ∀ v ∈ cs', v.oneCell' = true)
    (h : wpList P ops Q rest (a.put o.dst undef) (w.setRow b cs'.toArray)) : wpList P ops Q (o :: rest) a w :=
  wpList_plain hgd fun K hK => by
    unfold Oper.wp execOp
    simp only [ho, hx, hy, Instr.storeAt, Instr.sureAddr, Sem.run_bind, Sem.run_pure, Result.andThen_ok, run_storeVar_blk ty b t cs cs' hb hl hi h1]
    exact hK _ _ h

theorem wpList_store_blk' (hgd : o.guard = none) (hdst : o.dst = none) (ty : TypeId) (x y : Operand) (ho : o.op = .store ty x y) (b : Nat) (hx : a.eval x = .pointer (some ⟨b, 0, none⟩)) (t : TypeId) (cs cs' : List Value) (Z : Array Value) (hy : a.eval y = .agg Z) (hz : Z = cs'.toArray) (hb : Blk w b cs t)
    (hl : cs'.length = cs.length) (hi : (P.info? ty).map (·.size) = some cs.length) (h1 : ∀ v ∈ cs', v.oneCell' = true)
    (h : wpList P ops Q rest a (w.setRow b cs'.toArray)) : wpList P ops Q (o :: rest) a w :=
  wpList_store_blk hgd ty x y ho b hx t cs cs' (by rw [hy, hz]) hb hl hi h1 (by rw [hdst]; exact h)
theorem natCells_one (k : IntKind) (xs : List Nat) : ∀ v ∈ natCells k xs, v.oneCell' = true := by
  intro v hv
  simp only [natCells, List.mem_map] at hv
  obtain ⟨x, _, rfl⟩ := hv
  rfl

theorem Blk.setRow {b : Nat} {cs : List Value} {t : TypeId} (h : Blk w b cs t) (cs' : List Value) : Blk (w.setRow b cs'.toArray) b cs' t := setRow_heap w b _ _ t _ h
theorem Blk.setRow_other {b k : Nat} {cs : List Value} {t : TypeId} (h : Blk w b cs t) (hn : b ≠ k) (cs' : Array Value) : Blk (w.setRow k cs') b cs t := (Go.setRow_other w k b cs' hn).trans h
theorem Keeps.setRow {Pr : Nat → Prop} {w0 : World} (h : Keeps Pr w0 w) (k : Nat) (cs : Array Value) (hp : k < w0.heap.size → Pr k) : Keeps Pr w0 (w.setRow k cs) :=
  ⟨h.os, h.tape, h.output, by rw [size_setRow]; exact h.size, fun i hi hn => (Go.setRow_other w k i cs (fun e => hn (by subst e; exact hp hi))).trans (h.block i hi hn)⟩

/-- A new block of a known content. -/
theorem wpList_box (hgd : o.guard = none) (ty : TypeId) (x : Operand) (ho : o.op = .box ty x) (cs : Array Value) (hx : a.eval x = .agg cs)
    (h : wpList P ops Q rest (a.put o.dst (.pointer (some ⟨w.heap.size, 0, none⟩))) (w.alloc (.cells cs ty))) : wpList P ops Q (o :: rest) a w :=
  wpList_plain hgd fun K hK => by
    unfold Oper.wp execOp
    simp only [ho, hx, Instr.box, newVar, newRow, newObj, Value.cells, Sem.run_bind, Sem.run_pure, Result.andThen_ok, Sem.run]
    exact hK _ _ h

theorem wpList_alloc (hgd : o.guard = none) (ty : TypeId) (ho : o.op = .alloc ty) (cs : Array Value) (hz : (P.info? ty).map (·.zero) = some (some (.agg cs)))
    (h : wpList P ops Q rest (a.put o.dst (.pointer (some ⟨w.heap.size, 0, none⟩))) (w.alloc (.cells cs ty))) : wpList P ops Q (o :: rest) a w :=
  wpList_plain hgd fun K hK => by
    obtain ⟨i, hi, hzz⟩ := Option.map_eq_some_iff.1 hz
    unfold Oper.wp execOp
    simp only [ho, Instr.alloc, zeroValue, typeInfo, Go.program, Sem.run_bind, Sem.run_pure, Result.andThen_ok, Sem.run, hi, hzz, newVar, newRow, newObj, Value.cells]
    exact hK _ _ h

/-- A zero value of a struct or an array. -/
theorem wpList_build0 (hgd : o.guard = none) (ty : TypeId) (ho : o.op = .build ty #[]) (cs : Array Value) (hz : (P.info? ty).map (·.zero) = some (some (.agg cs))) {d : TypeDesc} (hu : P.underlying ty = some d)
    (hd : (∃ n e i, d = .array n e ∧ P.info? e = some i) ∨ ∃ fs, d = .struct fs ∧ ∀ f ∈ fs.toList, (P.info? f.type).isSome = true)
    (h : wpList P ops Q rest (a.put o.dst (.agg cs)) w) : wpList P ops Q (o :: rest) a w :=
  wpList_plain hgd fun K hK => by
    obtain ⟨i, hi, hzz⟩ := Option.map_eq_some_iff.1 hz
    unfold Oper.wp execOp
    rcases hd with ⟨n, e, j, rfl, hj⟩ | ⟨fs, rfl, hfs⟩
    · simp only [ho, Instr.build, zeroValue, typeInfo, Go.program, sizeOf, Sem.run_bind, Sem.run_pure, Result.andThen_ok, Sem.run, hi, hzz, Value.cells, run_underlying hu, hj, Instr.fill, Array.map_empty]
      exact hK _ _ h
    · have hm : ∃ ps, (fs.mapM fun f => do pure (f.offset, ← sizeOf f.type) : Sem (Array (Nat × Nat))).run P w = .ok ps w := by
        have key : ∀ (l : List Field) (acc : Array (Nat × Nat)), (∀ f ∈ l, (P.info? f.type).isSome = true) → ∃ ps, (l.foldlM (fun bs f => do let p ← (do pure (f.offset, ← sizeOf f.type) : Sem (Nat × Nat)); pure (bs.push p)) acc : Sem (Array (Nat × Nat))).run P w = .ok ps w := by
          intro l
          induction l with
          | nil => intro acc _; exact ⟨acc, by simp⟩
          | cons f l ih =>
            intro acc hf
            obtain ⟨j, hj⟩ := Option.isSome_iff_exists.1 (hf f List.mem_cons_self)
            obtain ⟨ps, hps⟩ := ih (acc.push (f.offset, j.size)) (fun g hg => hf g (List.mem_cons_of_mem _ hg))
            refine ⟨ps, ?_⟩
            simp only [List.foldlM_cons, Sem.run_bind, sizeOf, typeInfo, Go.program, Sem.run, hj, Sem.run_pure, Result.andThen_ok]
            exact hps
        obtain ⟨ps, hps⟩ := key fs.toList #[] hfs
        refine ⟨ps, ?_⟩
        rw [Array.mapM_eq_foldlM, ← Array.foldlM_toList]
        exact hps
      obtain ⟨ps, hps⟩ := hm
      simp only [ho, Instr.build, zeroValue, typeInfo, Go.program, Sem.run_bind, Sem.run_pure, Result.andThen_ok, Sem.run, hi, hzz, Value.cells, run_underlying hu, hps, Instr.fill, Array.map_empty]
      exact hK _ _ h

theorem wpList_lookup (hgd : o.guard = none) (m x : Operand) (t : TypeId) (c : Bool) (ho : o.op = .lookup t m x c) (vm vx v : Value) (hm : a.eval m = vm) (hx : a.eval x = vx) (hrun : (Instr.lookup t vm vx c).run P w = .ok v w)
    (h : wpList P ops Q rest (a.put o.dst v) w) : wpList P ops Q (o :: rest) a w :=
  wpList_plain hgd fun K hK => by
    unfold Oper.wp execOp
    simp only [ho, hm, hx, Sem.run_bind, hrun, Result.andThen_ok, Sem.run_pure]
    exact hK _ _ h

theorem wpList_update (hgd : o.guard = none) (hdst : o.dst = none) (m x v : Operand) (t : TypeId) (ho : o.op = .mapUpdate t m x v) (vm vx vv : Value) (hm : a.eval m = vm) (hx : a.eval x = vx) (hv : a.eval v = vv) (w1 : World) (hrun : (Instr.mapUpdate t vm vx vv).run P w = .ok () w1)
    (h : wpList P ops Q rest a w1) : wpList P ops Q (o :: rest) a w :=
  wpList_plain hgd fun K hK => by
    unfold Oper.wp execOp
    simp only [ho, hm, hx, hv, Sem.run_bind, hrun, Result.andThen_ok, Sem.run_pure]
    rw [Oper.upon_skip, hdst]
    exact hK _ _ h

/-- Cells in a row, as a region that draws its order reads them. -/
def rangeOk (w : World) (v : Value) (n : Nat) : Bool :=
  match v with
  | .pointer (some ⟨b, o, none⟩) => (List.range n).all fun j => (w.cell? ⟨b, o + j, none⟩).isSome
  | _ => false
def rangeOf (w : World) (v : Value) (n : Nat) : Array Value :=
  match v with
  | .pointer (some ⟨b, o, none⟩) => ((List.range n).map fun j => (w.cell? ⟨b, o + j, none⟩).getD undef).toArray
  | _ => #[]
theorem range_blk {b : Nat} {cs : List Value} {t : TypeId} (h : Blk w b cs t) : rangeOk w (.pointer (some ⟨b, 0, none⟩)) cs.length = true ∧ rangeOf w (.pointer (some ⟨b, 0, none⟩)) cs.length = cs.toArray := by
  constructor
  · simp only [rangeOk, List.all_eq_true, List.mem_range, Nat.zero_add]
    intro j hj
    rw [h.cell j, List.getElem?_eq_getElem hj]; rfl
  · simp only [rangeOf, Nat.zero_add]
    congr 1
    apply List.ext_getElem (by simp)
    intro i h1 h2
    simp [h.cell i, h2]
theorem range_cells {b o : Nat} {cs : List Value} (h : ∀ j, j < cs.length → w.cell? ⟨b, o + j, none⟩ = cs[j]?) : rangeOk w (.pointer (some ⟨b, o, none⟩)) cs.length = true ∧ rangeOf w (.pointer (some ⟨b, o, none⟩)) cs.length = cs.toArray := by
  constructor
  · simp only [rangeOk, List.all_eq_true, List.mem_range]
    intro j hj
    rw [h j hj, List.getElem?_eq_getElem hj]; rfl
  · simp only [rangeOf]
    congr 1
    apply List.ext_getElem (by simp)
    intro i h1 h2
    simp [h i h2, h2]
theorem run_load_range {ty n : Nat} {d : TypeDesc} (hu : P.underlying ty = some d) (hd : d.isRow = true) (hi : (P.info? ty).map (·.size) = some n)
    (ρ : Operand → Value) (dst : Option Tmp) (x : Operand) (t' : TypeId) (pos : String) (af : Array Edge) (g : Option (Nat × Bool)) (W : World) (h : rangeOk W (ρ x) n = true) :
    Sem.run P (execOp ρ { dst := dst, op := .load ty x, type := t', pos := pos, after := af, guard := g }) W = .ok (.value (.agg (rangeOf W (ρ x) n))) W := by
  have key : ∀ v, rangeOk W v n = true → (Instr.loadAt ty v).run P W = .ok (.agg (rangeOf W v n)) W := by
    intro v h
    unfold rangeOk at h
    split at h
    · rename_i b o
      simp only [List.all_eq_true, List.mem_range] at h
      have hr : W.rangeAt b o ((List.range n).map fun j => (W.cell? ⟨b, o + j, none⟩).getD undef) := by
        intro j u hu
        have hj : j < n := by
          have := (List.getElem?_eq_some_iff.1 hu).1
          simpa using this
        obtain ⟨c, hc⟩ := Option.isSome_iff_exists.1 (h j hj)
        simp [hj, hc] at hu
        rw [hc, hu]
      have := run_loadVar_mid (P := P) W b o ty _ d hr hu hd (by simpa using hi)
      simp only [Instr.loadAt, Instr.sureAddr, Sem.run_bind, Sem.run_pure, Result.andThen_ok, this, rangeOf]
    · cases h
  simp only [execOp, Sem.run_bind, key _ h, Result.andThen_ok, Sem.run_pure]
/-- A row of one element, laid. -/
theorem fold_set : ∀ (l : List Value) (k : Nat) (c : Array Value) (j : Nat), ((l.zipIdx k).foldl (fun cs (x : Value × Nat) => cs.setIfInBounds x.2 x.1) c)[j]? = if k ≤ j ∧ j < k + l.length ∧ j < c.size then l[j - k]? else c[j]?
  | [], k, c, j => by simp; intros; omega
  | x :: l, k, c, j => by
    rw [List.zipIdx_cons, List.foldl_cons, fold_set l (k + 1)]
    simp only [Array.size_setIfInBounds, List.length_cons, Array.getElem?_setIfInBounds]
    by_cases h1 : k + 1 ≤ j ∧ j < k + 1 + l.length ∧ j < c.size
    · rw [if_pos h1, if_pos (by omega), show j - k = (j - (k + 1)) + 1 from by omega, List.getElem?_cons_succ]
    · rw [if_neg h1]
      by_cases h2 : k = j
      · subst h2
        rw [if_pos rfl]
        by_cases h3 : k < c.size
        · rw [if_pos h3, if_pos (by omega)]; simp
        · rw [if_neg h3, if_neg (by omega)]; simp; omega
      · rw [if_neg h2, if_neg (by omega)]
theorem fill_one (sz : Nat) (cs : List Value) (zero : Array Value) (hz : zero.size = sz) (hl : cs.length = sz) : Instr.fill (fun i => some (i * sz, sz)) zero [(0, .agg cs.toArray)] = some cs.toArray := by
  have hf : ((cs.zipIdx 0).foldl (fun c (x : Value × Nat) => c.setIfInBounds x.2 x.1) zero) = cs.toArray := by
    apply Array.ext_getElem?
    intro j
    rw [fold_set]
    by_cases h : j < sz
    · rw [if_pos (by omega)]; simp
    · rw [if_neg (by omega)]
      simp [show zero.size ≤ j by omega, show cs.length ≤ j by omega]
  unfold Instr.fill
  simp only [Nat.zero_mul, Value.cells, List.size_toArray, hl, ne_eq, not_true_eq_false, Nat.zero_add, hz, gt_iff_lt, Nat.lt_irrefl, or_self, if_false, Instr.fill]
  simpa using hf

theorem run_buildSlice_one {t e : TypeId} {sz : Nat} (ht : P.underlying t = some (.slice e)) (hi : (P.info? e).map (fun i => (i.size, i.zero.map (·.cells.size))) = some (sz, some sz)) (h0 : 0 < sz) (h24 : sz ≤ 16777216) (w : World) (cs : List Value) (hl : cs.length = sz) :
    (Instr.buildSlice t 1 #[(0, .agg cs.toArray)]).run P w = .ok (.slice (some ⟨w.heap.size, 0, none⟩) 1 1) (w.alloc (.cells cs.toArray e)) := by
  obtain ⟨i, hi, hzz⟩ := Option.map_eq_some_iff.1 hi
  simp only [Prod.mk.injEq] at hzz
  obtain ⟨h1, h2⟩ := hzz
  obtain ⟨z, hz, hzs⟩ := Option.map_eq_some_iff.1 h2
  have hfill := fun zero hz => fill_one sz cs zero hz hl
  simp only [Instr.buildSlice, Sem.run_bind, run_underlying ht, Result.andThen_ok, sizeOf, typeInfo, Go.program, Sem.run, hi, Sem.run_pure, h1, Nat.one_mul, if_neg (show ¬ sz > 2 ^ 24 by omega), if_neg (show ¬ sz = 0 by omega), zeroValue, hz,
    hfill ((Array.range sz).map (z.cells[· % z.cells.size]!)) (by simp), newRow, newObj]
  rfl

theorem Blk.setCells {b : Nat} {t : TypeId} : ∀ (vs : List Value) (o : Nat) {w : World} {cs : List Value}, Blk w b cs t → o + vs.length ≤ cs.length → Blk (w.setCells b o vs) b (cs.take o ++ vs ++ cs.drop (o + vs.length)) t
  | [], o, w, cs, h, _ => by simpa [World.setCells] using h
  | v :: r, o, w, cs, h, hl => by
    simp only [List.length_cons] at hl
    have := Blk.setCells r (o + 1) (h.set o v) (by simp; omega)
    rw [World.setCells]
    have e : (cs.set o v).take (o + 1) ++ r ++ (cs.set o v).drop (o + 1 + r.length) = cs.take o ++ (v :: r) ++ cs.drop (o + (v :: r).length) := by
      rw [List.take_succ_eq_append_getElem (by simp; omega), List.take_set_of_le (by omega), List.drop_set_of_lt (by omega)]
      simp [Nat.add_assoc, Nat.add_comm 1]
    rwa [e] at this
theorem Blk.setCells_all {b : Nat} {t : TypeId} {cs vs : List Value} (h : Blk w b cs t) (hl : vs.length = cs.length) : Blk (w.setCells b 0 vs) b vs t := by
  have := Blk.setCells vs 0 h (by omega)
  simpa [List.drop_of_length_le (show cs.length ≤ vs.length by omega)] using this
theorem setCells_old (b : Nat) : ∀ (vs : List Value) (o : Nat) (w : World) (k : Nat), k ≠ b → (w.setCells b o vs).heap[k]? = w.heap[k]?
  | [], _, _, _, _ => rfl
  | v :: r, o, w, k, h => (setCells_old b r (o + 1) _ k h).trans (Below.heap_setCell _ _ _ _ h)
theorem setCells_size (b : Nat) : ∀ (vs : List Value) (o : Nat) (w : World), (w.setCells b o vs).heap.size = w.heap.size
  | [], _, _ => rfl
  | v :: r, o, w => (setCells_size b r (o + 1) _).trans (size_setCell _ _ _)
theorem setCells_rest (b : Nat) : ∀ (vs : List Value) (o : Nat) (w : World), (w.setCells b o vs).os = w.os ∧ (w.setCells b o vs).tape = w.tape ∧ (w.setCells b o vs).output = w.output
  | [], _, _ => ⟨rfl, rfl, rfl⟩
  | v :: r, o, w => setCells_rest b r (o + 1) _
theorem Keeps.setCells {Pr : Nat → Prop} {w0 : World} (h : Keeps Pr w0 w) (b o : Nat) (vs : List Value) (hp : b < w0.heap.size → Pr b) : Keeps Pr w0 (w.setCells b o vs) :=
  ⟨(setCells_rest b vs o w).1.trans h.os, (setCells_rest b vs o w).2.1.trans h.tape, (setCells_rest b vs o w).2.2.trans h.output, by rw [setCells_size]; exact h.size, fun i hi hn => (setCells_old b vs o w i (fun e => hn (by subst e; exact hp hi))).trans (h.block i hi hn)⟩
theorem Blk.setCells_other {b k : Nat} {cs : List Value} {t : TypeId} (h : Blk w b cs t) (hn : b ≠ k) (o : Nat) (vs : List Value) : Blk (w.setCells k o vs) b cs t := (setCells_old k vs o w b hn).trans h
theorem op_buildSlice_one {t e : TypeId} {sz : Nat} (ht : P.underlying t = some (.slice e)) (hi : (P.info? e).map (fun i => (i.size, i.zero.map (·.cells.size))) = some (sz, some sz)) (h0 : 0 < sz) (h24 : sz ≤ 16777216)
    (ρ : Operand → Value) (dst : Option Tmp) (x : Operand) (t' : TypeId) (pos : String) (af : Array Edge) (g : Option (Nat × Bool)) (W : World) (cs : Array Value) (h : ρ x = .agg cs) (hl : cs.size = sz) :
    Sem.run P (execOp ρ { dst := dst, op := .buildSlice t 1 #[(0, x)], type := t', pos := pos, after := af, guard := g }) W = .ok (.value (.slice (some ⟨W.heap.size, 0, none⟩) 1 1)) (W.alloc (.cells cs e)) := by
  have hr := run_buildSlice_one (P := P) ht hi h0 h24 W cs.toList (by simpa using hl)
  simp only [Array.toArray_toList] at hr
  simp only [execOp, List.map_toArray, List.map_cons, List.map_nil, h, Sem.run_bind, hr, Result.andThen_ok, Sem.run_pure]
/-- The same, the cells read off the frame. -/
theorem op_buildSlice_row {t e : TypeId} {sz : Nat} (ht : P.underlying t = some (.slice e)) (hi : (P.info? e).map (fun i => (i.size, i.zero.map (·.cells.size))) = some (sz, some sz)) (h0 : 0 < sz) (h24 : sz ≤ 16777216)
    (ρ : Operand → Value) (dst : Option Tmp) (x : Operand) (t' : TypeId) (pos : String) (af : Array Edge) (g : Option (Nat × Bool)) (W : World) (h : (match ρ x with | .agg cs => decide (cs.size = sz) | _ => false) = true) :
    Sem.run P (execOp ρ { dst := dst, op := .buildSlice t 1 #[(0, x)], type := t', pos := pos, after := af, guard := g }) W = .ok (.value (.slice (some ⟨W.heap.size, 0, none⟩) 1 1)) (W.alloc (.cells (ρ x).cells e)) := by
  split at h
  · rename_i cs e
    rw [op_buildSlice_one ht hi h0 h24 ρ dst x t' pos af g W cs e (by simpa using h), e]
    rfl
  · cases h

end Go.Proofs.Ytajmbafljncjcaa.Mp
