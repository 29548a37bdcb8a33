/- Over, Build: tables of rows. check: may these rows be? Over, Build. whole, Blocks; Look of any code point. What the law's own first call asks: a table of one row has two unlike blocks. No program here. -/
import Derived.Test.YtajmbafljncjcaaStC
import Derived.Test.YtajmbafljncjcaaStB
import Derived.Test.YtajmbafljncjcaaStA
import Derived.Deep.RegionHeld3
/- ### Over: Over, Build: tables of rows. -/
namespace Go.Proofs.Ytajmbafljncjcaa.Stage
open Go.RowKit Go.Proofs.YtajmbafljncjcaaW.PrintWords Go.Proofs.YtajmbafljncjcaaW.PrintLast Go.Proofs.YtajmbafljncjcaaW.PrintMore Go.Proofs.Ytajmbafljncjcaa.Mp
set_option linter.unusedVariables false
set_option linter.unusedSimpArgs false

/-- What rows laid over a table say. -/
def overSay (l : List (Nat × Nat × Nat)) (say : Nat → Nat) (p : Nat) : Nat := (sayR l p).getD (say p)

def Over1Post (w : World) (Nx B f : Nat) (l : List (Nat × Nat × Nat)) (base : List Nat) (b0 : Bool) (e : Ending) (w' : World) : Prop :=
  ∃ laid nx', e = .returned (.bool laid) ∧ (laid = false → b0 = false ∧ layB l f base = base) ∧ nx' ≤ l.length ∧ (∀ i, i < nx' → (l.getD i z3).2.1 < f) ∧ LaySt w w' Nx B nx' (layB l f base)

set_option maxRecDepth 100000 in
set_option maxHeartbeats 800000 in
theorem over1_nil (w : World) (g o cap Nx B Bt Br f : Nat) (A : Option Addr) (l : List (Nat × Nat × Nat)) (nx : Nat) (cur : List Nat)
    (hA : 0 < l.length → A = some ⟨g, o, none⟩) (hl : l.length ≤ cap) (hr : RiseN 0 l) (hrows : RowsAt w g o l) (hg : 0 < l.length → g ≠ Nx ∧ g ≠ B) (hNB : Nx ≠ B)
    (hnx : nx ≤ l.length) (hpast : ∀ i, i < nx → (l.getD i z3).2.1 < f) (hf : f + 127 ≤ 1114111) (hlen : l.length ≤ 65536)
    (hN : Blk w Nx [.int .i64 nx] 3) (hB : Blk w B (natCells .u16 cur) 91) (hcur : cur.length = 128)
    (hT : Blk w Bt [.pointer none] 23) (hR : Blk w Br [.slice A l.length cap] 22) :
    Calls Try.prog 59 #[.int .i32 (f : Int), .pointer (some ⟨B, 0, none⟩), .pointer (some ⟨Bt, 0, none⟩), .pointer (some ⟨Br, 0, none⟩), .pointer (some ⟨Nx, 0, none⟩)] w (Over1Post w Nx B f l cur false) := by
  have cT := hT.cell 0
  have cR := hR.cell 0
  simp only [List.getElem?_cons_zero] at cT cR
  have hTN : Bt ≠ Nx := blk_types hT hN (by decide)
  have hTB : Bt ≠ B := blk_types hT hB (by decide)
  have HL := Aside0.mk (lay_calls w g o cap Nx B f A l nx cur hA hl hr hrows hg hNB hnx hpast hf hlen hN hB hcur)
  go_enter Try.func59, Try.ntmps59
  go_wp2_with fail
  refine HL.out.mono ?_
  rintro e w1 ⟨laid, nx', rfl, h1, h2, h3, h4⟩
  have cT1 : w1.cell? ⟨Bt, 0, none⟩ = some (.pointer none) := ((hT.kept h4.keep (by simp [hTN, hTB])).cell 0)
  have H1 := Aside0.mk h1
  have H4 := Aside0.mk h4
  clear h1 h4
  cases laid with
  | true =>
    go_wp2
    go_ret
    exact ⟨true, nx', rfl, fun h => by (cases h), h2, h3, H4.out⟩
  | false =>
    go_wp2
    go_ret
    exact ⟨false, nx', rfl, fun _ => ⟨rfl, H1.out (by trivial)⟩, h2, h3, H4.out⟩


set_option maxRecDepth 100000 in
set_option maxHeartbeats 1600000 in
theorem over1_some (w : World) (g o cap Nx B Bt Br f : Nat) (A : Option Addr) (l : List (Nat × Nat × Nat)) (nx : Nat) (cur : List Nat) (i b gu c gp c' : Nat) (t : Tab)
    (hA : 0 < l.length → A = some ⟨g, o, none⟩) (hl : l.length ≤ cap) (hr : RiseN 0 l) (hrows : RowsAt w g o l) (hg : 0 < l.length → g ≠ Nx ∧ g ≠ B) (hNB : Nx ≠ B)
    (hnx : nx ≤ l.length) (hpast : ∀ i, i < nx → (l.getD i z3).2.1 < f) (hf : f + 127 ≤ 1114111) (hlen : l.length ≤ 65536)
    (hN : Blk w Nx [.int .i64 nx] 3) (hB : Blk w B (natCells .u16 cur) 91) (hcur : cur.length = 128)
    (hT : Blk w Bt [.pointer (some ⟨b, 0, none⟩)] 23) (hR : Blk w Br [.slice A l.length cap] 22) (ht : TabIn w b gu c gp c' t) (hi : i < 8704) (hfi : f = 128 * i) (hbB : b ≠ B) (hgB : gu ≠ B) :
    Calls Try.prog 59 #[.int .i32 (f : Int), .pointer (some ⟨B, 0, none⟩), .pointer (some ⟨Bt, 0, none⟩), .pointer (some ⟨Br, 0, none⟩), .pointer (some ⟨Nx, 0, none⟩)] w (Over1Post w Nx B f l (t.unlike.getD (t.which.getD i 0) []) true) := by
  have hx := ht.idx i hi
  have hcw := ht.hw i hi
  have hcu := ht.hu
  have hbl := ht.blk _ hx
  have hrow := ht.hub (t.which.getD i 0)
  generalize hxe : t.which.getD i 0 = x at *
  have hcell : ∀ j, j < (natCells .u16 (t.unlike.getD x [])).length → w.cell? ⟨gu, x * 128 + j, none⟩ = (natCells .u16 (t.unlike.getD x []))[j]? := fun j hj => by
    rw [natCells_len, hbl] at hj
    rw [hrow j hx hj, natCells_get _ _ _ (by omega)]
  have hra : w.rangeAt gu (x * 128) (natCells .u16 (t.unlike.getD x [])) := fun j v hv => by
    have hj := (List.getElem?_eq_some_iff.1 hv).1
    rw [hcell j hj, hv]
  have hth : w.there B 0 128 := fun j hj => by
    rw [Nat.zero_add, hB.cell j, natCells_get _ _ _ (by omega)]
    exact ⟨rfl, hB.free j⟩
  have hnl : (natCells .u16 (t.unlike.getD x [])).length = 128 := by rw [natCells_len]; exact hbl
  have ho1 := natCells_one .u16 (t.unlike.getD x [])
  have cT := hT.cell 0
  simp only [List.getElem?_cons_zero] at cT
  have hTN : Bt ≠ Nx := blk_types hT hN (by decide)
  have hTB : Bt ≠ B := blk_types hT hB (by decide)
  have hRN : Br ≠ Nx := blk_types hR hN (by decide)
  have hRB : Br ≠ B := blk_types hR hB (by decide)
  have eq1 : IntKind.i32.wrap ((f : Int) / 128) = (i : Int) := by rw [IntWalk.i32_in _ (by omega)]; omega
  have hi0 : (0 : Int) ≤ (i : Int) := Int.natCast_nonneg _
  have hi1 : (i : Int) < 8704 := by omega
  have hx0 : (0 : Int) ≤ (x : Int) := Int.natCast_nonneg _
  have hx1 : (x : Int) < (t.unlike.length : Int) := by omega
  have hun := Try.underlying91
  have hsz : (Try.prog.info? 91).map (·.size) = some (natCells .u16 (t.unlike.getD x [])).length := by rw [hnl]; exact size_block
  have HR := Aside0.mk hR
  have HT := Aside0.mk hT
  have HN := Aside0.mk hN
  have HB := Aside0.mk hB
  have HBL := Aside0.mk hbl
  have HROW := Aside0.mk hrows
  clear hR hT hN hB hbl hrows hrow hcell ht
  generalize t.unlike.getD x [] = base at *
  generalize t.unlike.length = m at *
  clear hfi hxe
  go_enter Try.func59, Try.ntmps59
  go_wp2
  go_region_held3 (fun w' => w'.cell? ⟨Bt, 0, none⟩ = some (.pointer (some ⟨b, 0, none⟩)) ∧ w'.cell? ⟨b, 8704, none⟩ = some (.slice (some ⟨gu, 0, none⟩) m c) ∧ w'.cell? ⟨b, i, none⟩ = some (.int .u16 (x : Int)) ∧ w'.rangeAt gu (x * 128) (natCells .u16 base) ∧ w'.there B 0 128) (first
      | go_keep_ranges
      | (refine ⟨(World.cell?_of_block (w := w) (a := ⟨Bt, 0, none⟩) (setCells_old B _ 0 w.drew Bt hTB)).trans cT, (World.cell?_of_block (w := w) (a := ⟨b, 8704, none⟩) (setCells_old B _ 0 w.drew b hbB)).trans hcu, (World.cell?_of_block (w := w) (a := ⟨b, i, none⟩) (setCells_old B _ 0 w.drew b hbB)).trans hcw, ?_, ?_⟩
         · exact fun j v hv => (World.cell?_of_block (w := w) (a := ⟨gu, x * 128 + j, none⟩) (setCells_old B _ 0 w.drew gu hgB)).trans (hra j v hv)
         · exact World.there_setCells ((World.there_drew w B 0 128).2 hth) _ _ _)) (fail)
  have hB2 : Blk (w.drew.setCells B 0 (natCells .u16 base)) B (natCells .u16 base) 91 := HB.out.drew.setCells_all (by rw [hnl, natCells_len]; exact hcur.symm)
  have hk2 : Keeps (fun k => k = Nx ∨ k = B) w (w.drew.setCells B 0 (natCells .u16 base)) := ((Keeps.refl _ w).drew).setCells B 0 _ (fun _ => .inr rfl)
  have hR2 := HR.out.kept hk2 (by simp [hRN, hRB])
  have hN2 : Blk (w.drew.setCells B 0 (natCells .u16 base)) Nx [.int .i64 nx] 3 := HN.out.drew.setCells_other hNB _ _
  have hrows2 : RowsAt (w.drew.setCells B 0 (natCells .u16 base)) g o l := fun j hj => by
    have hg' := hg (by omega)
    have h1 := HROW.out j hj
    exact ⟨hk2.cell (by simp [hg']) h1.1, hk2.cell (by simp [hg']) h1.2.1, hk2.cell (by simp [hg']) h1.2.2⟩
  have HK2 := Aside0.mk hk2
  have cR := hR2.cell 0
  have cT2 : (w.drew.setCells B 0 (natCells .u16 base)).cell? ⟨Bt, 0, none⟩ = some (.pointer (some ⟨b, 0, none⟩)) := (World.cell?_of_block (w := w) (a := ⟨Bt, 0, none⟩) (setCells_old B _ 0 w.drew Bt hTB)).trans cT
  simp only [List.getElem?_cons_zero] at cR
  have HL := Aside0.mk (lay_calls (w.drew.setCells B 0 (natCells .u16 base)) g o cap Nx B f A l nx base hA hl hr hrows2 hg hNB hnx hpast hf hlen hN2 hB2 HBL.out)
  have HT2 := Aside0.mk (HT.out.drew.setCells_other hTB 0 (natCells .u16 base))
  clear hrows2 hk2 hB2 hN2 hR2
  generalize w.drew.setCells B 0 (natCells .u16 base) = W2 at *
  go_wp2_with fail
  refine HL.out.mono ?_
  rintro e w1 ⟨laid, nx', rfl, h1, h2, h3, h4⟩
  have cT1 : w1.cell? ⟨Bt, 0, none⟩ = some (.pointer (some ⟨b, 0, none⟩)) := ((HT2.out.kept h4.keep (by simp [hTN, hTB])).cell 0)
  have H4 := Aside0.mk (show LaySt w w1 Nx B nx' (layB l f base) from ⟨HK2.out.trans h4.keep, h4.hN, h4.hB⟩)
  clear h1 h4
  cases laid with
  | true =>
    go_wp2
    go_ret
    exact ⟨true, nx', rfl, fun h => by (cases h), h2, h3, H4.out⟩
  | false =>
    go_wp2
    go_ret
    exact ⟨true, nx', rfl, fun h => by (cases h), h2, h3, H4.out⟩

end Go.Proofs.Ytajmbafljncjcaa.Stage

/- ### Check: check: may these rows be? -/
namespace Go.Proofs.Ytajmbafljncjcaa.Stage
open Go.RowKit Go.Proofs.YtajmbafljncjcaaW.PrintWords Go.Proofs.YtajmbafljncjcaaW.PrintLast Go.Proofs.YtajmbafljncjcaaW.PrintMore Go.Proofs.Ytajmbafljncjcaa.Mp
set_option linter.unusedVariables false
set_option linter.unusedSimpArgs false

/-- Rows of whole numbers, as they lie in memory. -/
def RowsI (w : World) (g o : Nat) (l : List (Int × Int × Int)) : Prop :=
  ∀ i, i < l.length → w.cell? ⟨g, o + i * 3, none⟩ = some (.int .i32 (l.getD i (0, 0, 0)).1) ∧ w.cell? ⟨g, o + i * 3 + 1, none⟩ = some (.int .i32 (l.getD i (0, 0, 0)).2.1) ∧ w.cell? ⟨g, o + i * 3 + 2, none⟩ = some (.int .i64 (l.getD i (0, 0, 0)).2.2)
theorem RowsI.below {w w1 : World} {g o : Nat} {l : List (Int × Int × Int)} (h : RowsI w g o l) (hb : Below w.heap.size w w1) : RowsI w1 g o l := fun i hi =>
  ⟨pw_cell_below hb (h i hi).1, pw_cell_below hb (h i hi).2.1, pw_cell_below hb (h i hi).2.2⟩

/-- The first row that may not be: its place and the error's number. -/
def chk : Int → Int → List (Int × Int × Int) → Int × Int
  | _, _, [] => (0, 0)
  | last, i, r :: l => if r.1 ≤ last ∨ r.2.1 < r.1 ∨ 1114111 < r.2.1 then (i, 80) else if r.2.2 < 0 ∨ 65535 < r.2.2 then (i, 81) else chk r.2.1 (i + 1) l
def checkR (l : List (Int × Int × Int)) : Int × Int := if 65536 < l.length then (65536, 80) else chk (-1) 0 l

def CheckPost (w : World) (r : Int × Int) (e : Ending) (w' : World) : Prop := e = .returned (.tuple #[.int .i64 r.1, .int .i64 r.2]) ∧ Below w.heap.size w w'

theorem drop_getD (l : List (Int × Int × Int)) (i : Nat) (h : i < l.length) : l.drop i = l.getD i (0, 0, 0) :: l.drop (i + 1) := by
  rw [List.drop_eq_getElem_cons h]
  simp [List.getD_eq_getElem?_getD, List.getElem?_eq_getElem h]

set_option maxRecDepth 100000 in
set_option maxHeartbeats 1600000 in
theorem check_calls (w : World) (g o cap : Nat) (A : Option Addr) (l : List (Int × Int × Int)) (hA : 0 < l.length → A = some ⟨g, o, none⟩) (hrows : RowsI w g o l) (hl : l.length ≤ 9223372036854775807) :
    Calls Try.prog 57 #[.slice A l.length cap] w (CheckPost w (checkR l)) := by
  have HRW := Aside0.mk hrows
  clear hrows
  by_cases hbig : 65536 < l.length
  · have HE := Aside0.mk (show checkR l = (65536, 80) from if_pos hbig)
    have hb' : (65536 : Int) < (l.length : Int) := by omega
    go_enter Try.func57, Try.ntmps57
    go_wp2
    go_ret2
    exact ⟨by rw [HE.out]; rfl, Below.refl _ _⟩
  · have HE := Aside0.mk (show checkR l = chk (-1) 0 l from if_neg hbig)
    have hb' : ¬ (65536 : Int) < (l.length : Int) := by omega
    go_enter Try.func57, Try.ntmps57
    go_wp2
    go_loopg [4, 12] l.length (fun q v4 v12 wr => ∃ (last : Int) (i : Nat), i ≤ l.length ∧ l.length - i ≤ q ∧ v4 = .int .i32 last ∧ v12 = .int .i64 (i : Int) ∧ Aside0 (checkR l = chk last i (l.drop i)) ∧ Aside0 (Below w.heap.size w wr))
    case atStart => exact ⟨-1, 0, by omega, by omega, rfl, rfl, ⟨by rw [HE.out]; rfl⟩, ⟨Below.refl _ _⟩⟩
    case round =>
      obtain ⟨last, i, hi, hq, rfl, rfl, hC, hB⟩ := hrel
      clear HE
      by_cases hlt : i < l.length
      · have hlt' : (i : Int) < (l.length : Int) := by omega
        obtain rfl := hA (by omega)
        have hrw := HRW.out.below hB.out i hlt
        have hD := drop_getD l i hlt
        rcases hrd : l.getD i (0, 0, 0) with ⟨F, T, N⟩
        rw [hrd] at hrw hD
        rw [hD] at hC
        obtain ⟨c0, c1, c2⟩ := hrw
        have hB2 := Aside0.mk (hB.out.alloc hB.out.size (.cells #[.int .i32 F, .int .i32 T, .int .i64 N] 40))
        have h1 := hC.out
        simp only [chk] at h1
        clear hD hrd hC
        by_cases b1 : F ≤ last
        · have HE := Aside0.mk (show checkR l = ((i : Int), 80) from by rw [h1, if_pos (.inl b1)])
          clear h1
          go_wp2
          go_ret2
          exact ⟨by rw [HE.out]; rfl, hB2.out⟩
        · by_cases b2 : T < F
          · have HE := Aside0.mk (show checkR l = ((i : Int), 80) from by rw [h1, if_pos (.inr (.inl b2))])
            clear h1
            go_wp2
            go_ret2
            exact ⟨by rw [HE.out]; rfl, hB2.out⟩
          · by_cases b3 : 1114111 < T
            · have HE := Aside0.mk (show checkR l = ((i : Int), 80) from by rw [h1, if_pos (.inr (.inr b3))])
              clear h1
              go_wp2
              go_ret2
              exact ⟨by rw [HE.out]; rfl, hB2.out⟩
            · rw [if_neg (by omega)] at h1
              by_cases b4 : N < 0
              · have HE := Aside0.mk (show checkR l = ((i : Int), 81) from by rw [h1, if_pos (.inl b4)])
                clear h1
                go_wp2
                go_ret2
                exact ⟨by rw [HE.out]; rfl, hB2.out⟩
              · by_cases b5 : 65535 < N
                · have HE := Aside0.mk (show checkR l = ((i : Int), 81) from by rw [h1, if_pos (.inr b5)])
                  clear h1
                  go_wp2
                  go_ret2
                  exact ⟨by rw [HE.out]; rfl, hB2.out⟩
                · rw [if_neg (by omega)] at h1
                  have HE := Aside0.mk h1
                  clear h1
                  go_wp2
                  go_roundg (gk - 1)
                  case measure => omega
                  case rel => exact ⟨T, i + 1, by omega, by omega, rfl, by go_num, HE, hB2⟩
      · have he : i = l.length := by omega
        have HE := Aside0.mk (show checkR l = (0, 0) from by rw [hC.out, List.drop_of_length_le (by omega)]; rfl)
        have hge : ¬ (i : Int) < (l.length : Int) := by omega
        clear he hC
        go_wp2
        go_ret2
        exact ⟨by rw [HE.out]; rfl, hB.out⟩

/-- Rows that may be, as natural numbers. -/
def natR (l : List (Int × Int × Int)) : List (Nat × Nat × Nat) := l.map fun r => (r.1.toNat, r.2.1.toNat, r.2.2.toNat)
theorem natR_len (l : List (Int × Int × Int)) : (natR l).length = l.length := by simp [natR]
theorem chk_ok : ∀ (l : List (Int × Int × Int)) (last i : Int) (low : Nat), last + 1 = low → 0 ≤ i → chk last i l = (0, 0) → RiseN low (natR l) ∧ ∀ r ∈ l, 0 ≤ r.1 ∧ 0 ≤ r.2.1 ∧ 0 ≤ r.2.2
  | [], _, _, _, _, _, _ => ⟨trivial, fun r h => by cases h⟩
  | r :: l, last, i, low, hlow, hi, h => by
    simp only [chk] at h
    split at h
    · simp at h
    · rename_i h1
      split at h
      · simp at h
      · rename_i h2
        have ih := chk_ok l r.2.1 (i + 1) (r.2.1.toNat + 1) (by omega) (by omega) h
        refine ⟨⟨by simp; omega, by simp; omega, by simp; omega, by simp; omega, ih.1⟩, fun q hq => ?_⟩
        rcases List.mem_cons.1 hq with rfl | hq
        · omega
        · exact ih.2 q hq
theorem checkR_ok {l : List (Int × Int × Int)} (h : (checkR l).2 = 0) : checkR l = (0, 0) ∧ l.length ≤ 65536 ∧ RiseN 0 (natR l) ∧ ∀ r ∈ l, 0 ≤ r.1 ∧ 0 ≤ r.2.1 ∧ 0 ≤ r.2.2 := by
  unfold checkR at h ⊢
  split at h
  · simp at h
  · rename_i hl
    rw [if_neg hl]
    have key : ∀ (l : List (Int × Int × Int)) (last i : Int), (chk last i l).2 = 0 → chk last i l = (0, 0) := by
      intro l
      induction l with
      | nil => intro last i _; rfl
      | cons r l ih =>
        intro last i h
        simp only [chk] at h ⊢
        split at h
        · simp at h
        · rename_i h1
          rw [if_neg h1]
          split at h
          · simp at h
          · rename_i h2
            rw [if_neg h2]
            exact ih _ _ h
    have hk := key l _ _ h
    have := chk_ok l (-1) 0 0 (by omega) (by omega) hk
    exact ⟨hk, by omega, this⟩
theorem RowsI.nat {w : World} {g o : Nat} {l : List (Int × Int × Int)} (h : RowsI w g o l) (h0 : ∀ r ∈ l, 0 ≤ r.1 ∧ 0 ≤ r.2.1 ∧ 0 ≤ r.2.2) : RowsAt w g o (natR l) := fun i hi => by
  rw [natR_len] at hi
  have hm := h0 (l.getD i (0, 0, 0)) (by rw [List.getD_eq_getElem?_getD, List.getElem?_eq_getElem hi]; exact List.getElem_mem hi)
  have e : (natR l).getD i z3 = ((l.getD i (0, 0, 0)).1.toNat, (l.getD i (0, 0, 0)).2.1.toNat, (l.getD i (0, 0, 0)).2.2.toNat) := by
    simp [natR, List.getD_eq_getElem?_getD, List.getElem?_eq_getElem hi]
  rw [e]
  simp only [Int.toNat_of_nonneg hm.1, Int.toNat_of_nonneg hm.2.1, Int.toNat_of_nonneg hm.2.2]
  exact h i hi

end Go.Proofs.Ytajmbafljncjcaa.Stage

/- ### Build: Over, Build. -/
namespace Go.Proofs.Ytajmbafljncjcaa.Stage
open Go.RowKit Go.Proofs.YtajmbafljncjcaaW.PrintWords Go.Proofs.YtajmbafljncjcaaW.PrintLast Go.Proofs.YtajmbafljncjcaaW.PrintMore Go.Proofs.Ytajmbafljncjcaa.Mp
set_option linter.unusedVariables false
set_option linter.unusedSimpArgs false

theorem layB_blkOf (l : List (Nat × Nat × Nat)) (say : Nat → Nat) (i : Nat) : layB l (128 * i) (blkOf say i) = blkOf (overSay l say) i :=
  list_ext_getD (layB_len _ _ _) (blkOf_len _ _) fun j hj => by rw [layB_get _ _ _ _ hj, blkOf_get _ _ _ hj, blkOf_get _ _ _ hj]; rfl
theorem zeros_blkOf {say : Nat → Nat} (h : ∀ p, p < 1114112 → say p = 0) (i : Nat) (hi : i < 8704) : blkOf say i = zeros128 :=
  list_ext_getD (blkOf_len _ _) zeros128_len fun j hj => by rw [blkOf_get _ _ _ hj, h _ (by omega), zeros128, List.getD_eq_getElem?_getD, List.getElem?_replicate]; split <;> rfl

/-- How Over's own variables stand ahead of block i. -/
def OverSt (W3 : World) (Nx : Nat) (l : List (Nat × Nat × Nat)) (i : Nat) (W : World) : Prop :=
  (∀ k, k < Nx → W.heap[k]? = W3.heap[k]?) ∧ ∃ nx, nx ≤ l.length ∧ (∀ j, j < nx → (l.getD j z3).2.1 < 128 * i) ∧ Blk W Nx [.int .i64 nx] 3

theorem over_fill {w W3 : World} {v : Option Addr} {say : Nat → Nat} (hh : Han w v say) {g o cap : Nat} {A : Option Addr} {l : List (Nat × Nat × Nat)} (hA : 0 < l.length → A = some ⟨g, o, none⟩) (hl : l.length ≤ cap) (hr : RiseN 0 l) (hrows : RowsAt w g o l) (hlen : l.length ≤ 65536)
    {Bt Br Nx : Nat} (hold : ∀ k, k < w.heap.size → W3.heap[k]? = w.heap[k]?) (hT : Blk W3 Bt [.pointer v] 23) (hR : Blk W3 Br [.slice A l.length cap] 22) (hN : Blk W3 Nx [.int .i64 ((0 : Nat) : Int)] 3) (hsz : W3.heap.size = Nx + 1) (hwN : w.heap.size ≤ Nx) (hBt : Bt < Nx) (hBr : Br < Nx) :
    Fill W3 59 #[.pointer (some ⟨Bt, 0, none⟩), .pointer (some ⟨Br, 0, none⟩), .pointer (some ⟨Nx, 0, none⟩)] (fun k => k = Nx) (OverSt W3 Nx l) (blkOf (overSay l say)) where
  pr := fun k h => by omega
  ent := call_enters Try.func59 (by kernel_rfl) (by kernel_rfl)
  start := ⟨fun _ _ => rfl, 0, Nat.zero_le _, fun j hj => by omega, hN⟩
  stable := fun i W W' h hs => ⟨fun k hk => (hs k (by omega)).trans (h.1 k hk), by
    obtain ⟨_, nx, h1, h2, h3⟩ := h
    exact ⟨nx, h1, h2, (hs Nx (by omega)).trans h3⟩⟩
  len := fun i => blkOf_len _ _
  call := fun i hi W B hS hnB hB hW => by
    obtain ⟨hsame, nx, h1, h2, h3⟩ := hS
    have hw : ∀ k, k < w.heap.size → W.heap[k]? = w.heap[k]? := fun k hk => (hsame k (by omega)).trans (hold k hk)
    have hrows' : RowsAt W g o l := fun j hj => ⟨cell_same hw (hrows j hj).1, cell_same hw (hrows j hj).2.1, cell_same hw (hrows j hj).2.2⟩
    have hT' : Blk W Bt [.pointer v] 23 := (hsame Bt hBt).trans hT
    have hR' : Blk W Br [.slice A l.length cap] 22 := (hsame Br hBr).trans hR
    have hgl : 0 < l.length → g < w.heap.size := fun hp => World.block_lt_of_cell? w _ (hrows 0 hp).1
    have hg : 0 < l.length → g ≠ Nx ∧ g ≠ B := fun hp => ⟨by have := hgl hp; omega, by have := hgl hp; omega⟩
    have e1 : ((i : Int) * 128) = ((128 * i : Nat) : Int) := by omega
    have e2 : (#[Value.int .i32 ((i : Int) * 128), .pointer (some ⟨B, 0, none⟩)] ++ #[Value.pointer (some ⟨Bt, 0, none⟩), .pointer (some ⟨Br, 0, none⟩), .pointer (some ⟨Nx, 0, none⟩)] : Array Value) =
      #[.int .i32 ((128 * i : Nat) : Int), .pointer (some ⟨B, 0, none⟩), .pointer (some ⟨Bt, 0, none⟩), .pointer (some ⟨Br, 0, none⟩), .pointer (some ⟨Nx, 0, none⟩)] := by rw [e1]; rfl
    rw [e2]
    have fin : ∀ base b0, layB l (128 * i) base = blkOf (overSay l say) i → (b0 = false → base = zeros128) → ∀ e w', Over1Post W Nx B (128 * i) l base b0 e w' → FillPost (fun k => k = Nx) (OverSt W3 Nx l) (blkOf (overSay l say)) B i W e w' := by
      rintro base b0 hbase hb0 e w' ⟨laid, nx', rfl, hl0, hn1, hn2, hst⟩
      refine ⟨laid, rfl, fun hf => ?_, ⟨fun k hk => ?_, nx', hn1, fun j hj => by have := hn2 j hj; omega, hst.hN⟩, by rw [← hbase]; exact hst.hB, hst.keep⟩
      · obtain ⟨hb, hlb⟩ := hl0 hf
        rw [← hbase, hlb, hb0 hb]
      · exact (hst.keep.block k (by omega) (by omega)).trans (hsame k hk)
    rcases hh with ⟨rfl, hz⟩ | ⟨b, rfl, gu, c, gp, c', ht⟩
    · refine (over1_nil W g o cap Nx B Bt Br (128 * i) A l nx zeros128 hA hl hr hrows' hg (by omega) h1 h2 (by omega) hlen h3 hB zeros128_len hT' hR').mono ?_
      exact fin zeros128 false (by rw [← zeros_blkOf hz i hi]; exact layB_blkOf l say i) (fun _ => rfl)
    · have hbl : b < w.heap.size := World.block_lt_of_cell? w _ ht.hu
      have hgu : gu < w.heap.size := World.block_lt_of_cell? w _ (ht.hub _ 0 (ht.idx 0 (by omega)) (by omega))
      refine (over1_some W g o cap Nx B Bt Br (128 * i) A l nx zeros128 i b gu c gp c' (tabSay say) hA hl hr hrows' hg (by omega) h1 h2 (by omega) hlen h3 hB zeros128_len hT' hR' (ht.same hw) hi rfl (by omega) (by omega)).mono ?_
      exact fin _ true (by rw [tabSay_blk say i hi]; exact layB_blkOf l say i) (fun h => by cases h)

theorem overSay_bound {w : World} {v : Option Addr} {say : Nat → Nat} (hh : Han w v say) {l : List (Nat × Nat × Nat)} (hr : RiseN 0 l) (p : Nat) (hp : p < 1114112) : overSay l say p ≤ 65535 := by
  unfold overSay
  cases h : sayR l p with
  | some n => exact (sayR_le hr h).1
  | none =>
    rcases hh with ⟨_, hz⟩ | ⟨b, _, gu, c, gp, c', ht⟩
    · simp [hz p hp]
    · simpa using ht.bound p hp

def OverPost (w : World) (l : List (Int × Int × Int)) (say : Nat → Nat) (e : Ending) (w' : World) : Prop :=
  Below w.heap.size w w' ∧ (((checkR l).2 ≠ 0 ∧ e = .returned (.tuple #[.pointer none, .int .i64 (checkR l).1, .int .i64 (checkR l).2])) ∨
    ((checkR l).2 = 0 ∧ ∃ b, e = .returned (.tuple #[.pointer (some ⟨b, 0, none⟩), .int .i64 0, .int .i64 0]) ∧ TabSays w' b (overSay (natR l) say)))

set_option maxRecDepth 100000 in
set_option maxHeartbeats 1600000 in
theorem over_calls (w : World) (v : Option Addr) (say : Nat → Nat) (hh : Han w v say) (g o cap : Nat) (A : Option Addr) (l : List (Int × Int × Int)) (hA : 0 < l.length → A = some ⟨g, o, none⟩) (hrows : RowsI w g o l) (hl : l.length ≤ cap) (hl2 : l.length ≤ 9223372036854775807) :
    Calls Try.prog 27 #[.pointer v, .slice A l.length cap] w (OverPost w l say) := by
  have hb1 : Below w.heap.size w ((w.alloc (.cells #[.pointer v] 23)).alloc (.cells #[.slice A l.length cap] 22)) := ((Below.refl _ _).alloc (Nat.le_refl _) _).alloc (by simp) _
  have HB1 := Aside0.mk hb1
  have HT1 := Aside0.mk ((blk_new w [.pointer v] 23).alloc (.cells #[.slice A l.length cap] 22))
  have HR1 := Aside0.mk (blk_new (w.alloc (.cells #[.pointer v] 23)) [.slice A l.length cap] 22)
  have HC := Aside0.mk (check_calls _ g o cap A l hA (hrows.below hb1) hl2)
  clear hb1
  have hz : ((w.alloc (.cells #[.pointer v] 23)).alloc (.cells #[.slice A l.length cap] 22)).heap.size = w.heap.size + 2 := by simp
  have HZ := Aside0.mk hz
  rw [alloc_size] at HR1
  go_enter Try.func27, Try.ntmps27
  go_wp2_with fail
  refine HC.out.mono ?_
  rintro e w2 ⟨rfl, hb2⟩
  have HB2 := Aside0.mk hb2
  have HB := Aside0.mk (HB1.out.trans (hb2.mono (by omega)))
  clear hb2 hz
  by_cases he : (checkR l).2 = 0
  · obtain ⟨h1, h2, h3, h4⟩ := checkR_ok he
    have HE := Aside0.mk he
    have hsz : w.heap.size + 2 ≤ w2.heap.size := by have := HB2.out.size; have := HZ.out; omega
    have hold : ∀ k, k < w.heap.size → w2.heap[k]? = w.heap[k]? := HB.out.block
    have hT2 : Blk w2 w.heap.size [.pointer v] 23 := HT1.out.kept (Keeps.of_below HB2.out (Pr := fun _ => False)) (fun h => h)
    have hR2 : Blk w2 (w.heap.size + 1) [.slice A l.length cap] 22 := HR1.out.kept (Keeps.of_below HB2.out (Pr := fun _ => False)) (fun h => h)
    have hF := over_fill (W3 := w2.alloc (.cells #[.int .i64 ((0 : Nat) : Int)] 3)) (cap := cap) hh (A := A) (l := natR l) (by rw [natR_len]; exact hA) (by rw [natR_len]; exact hl) h3 (hrows.nat h4) (by rw [natR_len]; exact h2) (fun k hk => (Below.heap_alloc _ _ _ (by omega)).trans (hold k hk)) (hT2.alloc _) (by rw [natR_len]; exact hR2.alloc _) (blk_new w2 [.int .i64 ((0 : Nat) : Int)] 3) (by simp) (by omega) (by omega) (by omega)
    have HM := Aside0.mk (made_calls hF (fun i hi j => by
      rcases Nat.lt_or_ge j 128 with hj | hj
      · rw [blkOf_get _ _ _ hj]; exact overSay_bound hh h3 _ (by omega)
      · rw [List.getD_eq_getElem?_getD, List.getElem?_eq_none (by rw [blkOf_len]; exact hj)]; exact Nat.zero_le _))
    have hmf : ∀ (fn : Fn) (first cap : Array Value) (w : World), (Instr.makeFunc fn first cap).run Try.prog w = .ok (.func fn first cap) w := fun _ _ _ _ => rfl
    rw [h1]
    clear hF h1 h2 h3 h4 hT2 hR2 hold he
    go_wp2_with fail
    refine HM.out.mono ?_
    rintro e w3 ⟨b, gu, c, gp, c', rfl, ht, _, hk⟩
    have hb3 : Below w.heap.size w2 w3 := ⟨hk.os, hk.tape, hk.output, Nat.le_trans (by simp) hk.size, fun k hk' => (hk.block k (by simp; omega) (by omega)).trans (Below.heap_alloc _ _ _ (by omega))⟩
    have hfin : OverPost w l say (.returned (.tuple #[.pointer (some ⟨b, 0, none⟩), .int .i64 0, .int .i64 0])) w3 :=
      ⟨HB.out.trans hb3, .inr ⟨HE.out, b, rfl, gu, c, gp, c', ht⟩⟩
    have HFIN := Aside0.mk hfin
    clear ht hk hfin hb3
    go_wp2
    go_ret3
    exact HFIN.out
  · have hne : ¬ (checkR l).2 = 0 := he
    have HE := Aside0.mk he
    generalize hr : checkR l = r at hne
    have HRR := Aside0.mk hr
    clear hr he
    go_wp2
    go_ret3
    exact ⟨HB.out, .inl ⟨HE.out, by rw [HRR.out]; rfl⟩⟩

set_option maxRecDepth 100000 in
set_option maxHeartbeats 800000 in
theorem build_calls (w : World) (g o cap : Nat) (A : Option Addr) (l : List (Int × Int × Int)) (hA : 0 < l.length → A = some ⟨g, o, none⟩) (hrows : RowsI w g o l) (hl : l.length ≤ cap) (hl2 : l.length ≤ 9223372036854775807) :
    Calls Try.prog 18 #[.slice A l.length cap] w (OverPost w l (fun _ => 0)) := by
  have HO := Aside0.mk (over_calls w none (fun _ => 0) (.inl ⟨rfl, fun _ _ => rfl⟩) g o cap A l hA hrows hl hl2)
  clear hrows hA
  go_enter Try.func18, Try.ntmps18
  go_wp2_with fail
  refine HO.out.mono ?_
  rintro e w1 ⟨hb, ⟨hne, rfl⟩ | ⟨he, b, rfl, ht⟩⟩
  · have HF := Aside0.mk (show OverPost w l (fun _ => 0) (.returned (.tuple #[.pointer none, .int .i64 (checkR l).1, .int .i64 (checkR l).2])) w1 from ⟨hb, .inl ⟨hne, rfl⟩⟩)
    clear hb hne
    generalize checkR l = r at HF
    go_wp2
    go_ret3
    exact HF.out
  · have HF := Aside0.mk (show OverPost w l (fun _ => 0) (.returned (.tuple #[.pointer (some ⟨b, 0, none⟩), .int .i64 0, .int .i64 0])) w1 from ⟨hb, .inr ⟨he, b, rfl, ht⟩⟩)
    clear hb he ht
    go_wp2
    go_ret3
    exact HF.out

end Go.Proofs.Ytajmbafljncjcaa.Stage

/- ### Whole: whole, Blocks; Look of any code point. -/
namespace Go.Proofs.Ytajmbafljncjcaa.Stage
open Go.RowKit Go.Proofs.YtajmbafljncjcaaW.PrintWords Go.Proofs.YtajmbafljncjcaaW.PrintLast Go.Proofs.YtajmbafljncjcaaW.PrintMore Go.Proofs.Ytajmbafljncjcaa.Mp
set_option linter.unusedVariables false
set_option linter.unusedSimpArgs false

theorem nothing_calls (w : World) (x y : Value) : Calls Try.prog 93 #[x, y] w fun e w' => e = .returned (.bool false) ∧ w = w' := by
  go_enter Try.func93, Try.ntmps93
  go_wp2
  go_ret
  exact ⟨rfl, rfl⟩

theorem nothing_fill (w : World) : Fill w 93 #[] (fun _ => False) (fun _ _ => True) (blkOf (fun _ => 0)) where
  pr := fun k h => h.elim
  ent := call_enters Try.func93 (by kernel_rfl) (by kernel_rfl)
  start := trivial
  stable := fun _ _ _ _ _ => trivial
  len := fun i => blkOf_len _ _
  call := fun i hi W B _ _ hB _ => by
    refine (nothing_calls W _ _).mono ?_
    rintro e w' ⟨rfl, rfl⟩
    have hz : blkOf (fun _ => 0) i = zeros128 := zeros_blkOf (fun _ _ => rfl) i hi
    exact ⟨false, rfl, fun _ => hz, trivial, by rw [hz]; exact hB, Keeps.refl _ _⟩

def WholePost (w : World) (say : Nat → Nat) (e : Ending) (w' : World) : Prop :=
  Below w.heap.size w w' ∧ ∃ b, e = .returned (.pointer (some ⟨b, 0, none⟩)) ∧ TabSays w' b say

set_option maxRecDepth 100000 in
theorem whole_calls (w : World) (v : Option Addr) (say : Nat → Nat) (hh : Han w v say) : Calls Try.prog 62 #[.pointer v] w (WholePost w say) := by
  rcases hh with ⟨rfl, hz⟩ | ⟨b, rfl, ht⟩
  · have HM := Aside0.mk (made_calls (nothing_fill w) (fun i hi j => by
      rw [List.getD_eq_getElem?_getD]
      rcases Nat.lt_or_ge j 128 with hj | hj
      · rw [← List.getD_eq_getElem?_getD, blkOf_get _ _ _ hj]; exact Nat.zero_le _
      · rw [List.getElem?_eq_none (by rw [blkOf_len]; exact hj)]; exact Nat.zero_le _))
    go_enter Try.func62, Try.ntmps62
    go_wp2_with fail
    refine HM.out.mono ?_
    rintro e w1 ⟨b, g, c, g', c', rfl, ht, _, hk⟩
    have HF := Aside0.mk (show WholePost w say (.returned (.pointer (some ⟨b, 0, none⟩))) w1 from ⟨hk.below, b, rfl, g, c, g', c', by
      rw [show tabSay say = tabSay (fun _ => 0) from tabSay_congr hz]; exact ht⟩)
    clear ht hk
    go_wp2
    go_ret
    exact HF.out
  · have HT := Aside0.mk ht
    clear ht
    go_enter Try.func62, Try.ntmps62
    go_wp2
    go_ret
    exact ⟨Below.refl _ _, b, rfl, HT.out⟩

def BlocksPost (w : World) (say : Nat → Nat) (e : Ending) (w' : World) : Prop := Below w.heap.size w w' ∧ e = .returned (.int .i64 ((tabSay say).unlike.length : Nat))

set_option maxRecDepth 100000 in
theorem blocks_calls (w : World) (v : Option Addr) (say : Nat → Nat) (hh : Han w v say) : Calls Try.prog 38 #[.pointer v] w (BlocksPost w say) := by
  have HW := Aside0.mk (whole_calls w v say hh)
  clear hh
  go_enter Try.func38, Try.ntmps38
  go_wp2_with fail
  refine HW.out.mono ?_
  rintro e w1 ⟨hb, b, rfl, g, c, g', c', ht⟩
  have cu := ht.hu
  have HB := Aside0.mk hb
  clear hb ht
  generalize hm : (tabSay say).unlike.length = m at cu
  have HM := Aside0.mk hm
  clear hm
  go_wp2
  go_ret
  exact ⟨HB.out, by rw [HM.out]; rfl⟩

/-- Look, of whatever is asked. -/
def lookI (say : Nat → Nat) (p : Int) : Int := if 0 ≤ p ∧ p ≤ 1114111 then (say p.toNat : Nat) else 0
def LookPost (w : World) (say : Nat → Nat) (p : Int) (e : Ending) (w' : World) : Prop := e = .returned (.int .i64 (lookI say p)) ∧ ∃ n, w' = w.drewN n

theorem look_calls (w : World) (v : Option Addr) (say : Nat → Nat) (hh : Han w v say) (p : Int) : Calls Try.prog 17 #[.pointer v, .int .i32 p] w (LookPost w say p) := by
  rcases hh with ⟨rfl, hz⟩ | ⟨b, rfl, g, c, g', c', ht⟩
  · refine (look_nil p w).mono ?_
    rintro e w' ⟨rfl, rfl⟩
    refine ⟨?_, 0, rfl⟩
    unfold lookI
    split
    · rw [hz _ (by omega)]; rfl
    · rfl
  · by_cases hp : 0 ≤ p ∧ p ≤ 1114111
    · refine (look_in ht p hp.1 hp.2).mono ?_
      rintro e w' ⟨rfl, n, rfl⟩
      refine ⟨?_, n, rfl⟩
      unfold lookI
      rw [if_pos hp, tabSay_say _ _ (by omega)]
    · have hL : lookI say p = 0 := if_neg hp
      rcases Decidable.not_and_iff_or_not.1 hp with h1 | h1
      · have h1' : p < 0 := by omega
        have HL := Aside0.mk hL
        clear hp hL h1 ht
        go_enter Try.func17, Try.ntmps17
        go_wp2
        go_ret
        exact ⟨by rw [HL.out]; rfl, 0, rfl⟩
      · by_cases h0 : p < 0
        · have HL := Aside0.mk hL
          clear hp hL h1 ht
          go_enter Try.func17, Try.ntmps17
          go_wp2
          go_ret
          exact ⟨by rw [HL.out]; rfl, 0, rfl⟩
        · have h1' : 1114111 < p := by omega
          have HL := Aside0.mk hL
          clear hp hL h1 ht
          go_enter Try.func17, Try.ntmps17
          go_wp2
          go_ret
          exact ⟨by rw [HL.out]; rfl, 0, rfl⟩

end Go.Proofs.Ytajmbafljncjcaa.Stage

/- ### Two: What the law's own first call asks: a table of one row has two unlike blocks. No program here. -/
namespace Go.Proofs.Ytajmbafljncjcaa.Stage
set_option linter.unusedVariables false
set_option linter.unusedSimpArgs false

theorem two_len {α : Type} [DecidableEq α] {l : List α} {a b : α} (hn : l.Nodup) (hab : a ≠ b) (h : ∀ x, x ∈ l ↔ x = a ∨ x = b) : l.length = 2 := by
  have h1 : l.Perm [a, b] := by
    rw [List.perm_ext_iff_of_nodup hn (by simp [hab])]
    intro x
    rw [h x]
    simp
  simpa using h1.length_eq

def saidA : Nat → Nat := overSay [(65, 90, 1)] (fun _ => 0)
theorem saidA_eq (p : Nat) : saidA p = if 65 ≤ p ∧ p ≤ 90 then 1 else 0 := by
  unfold saidA overSay
  rw [sayR_cons]
  split
  · rfl
  · rfl
theorem tabOf_unlike (bs : List (List Nat)) : (tabOf bs).unlike = (canonB bs).2 := rfl
theorem tabSay_unlike (say : Nat → Nat) : (tabSay say).unlike = (canonB (blksOf say)).2 := by unfold tabSay; exact tabOf_unlike _
theorem awake_two : (tabSay saidA).unlike.length = 2 := by
  have hc := canonB_ok (blksOf saidA)
  have hne : blkOf saidA 0 ≠ blkOf saidA 1 := fun h => by
    have := congrArg (fun l => l.getD 65 0) h
    simp only [blkOf_get _ _ _ (show 65 < 128 by decide), saidA_eq] at this
    simp at this
  rw [tabSay_unlike]
  generalize canonB (blksOf saidA) = st at hc
  refine two_len hc.nodup hne fun x => ?_
  have hm := hc.mem x
  rw [blksOf, List.mem_map] at hm
  refine hm.trans ⟨fun h => ?_, fun h => ?_⟩
  · obtain ⟨i, hi, rfl⟩ := h
    rcases Nat.eq_zero_or_pos i with rfl | h0
    · exact .inl rfl
    · refine .inr ?_
      simp only [blkOf]
      refine List.map_congr_left fun j hj => ?_
      rw [saidA_eq, saidA_eq, if_neg (by omega), if_neg (by omega)]
  · rcases h with rfl | rfl
    · exact ⟨0, List.mem_range.2 (by omega), rfl⟩
    · exact ⟨1, List.mem_range.2 (by omega), rfl⟩

end Go.Proofs.Ytajmbafljncjcaa.Stage
