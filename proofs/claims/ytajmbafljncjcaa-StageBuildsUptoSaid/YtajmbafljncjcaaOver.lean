/- Over, Build: tables of rows. -/
import Derived.Test.YtajmbafljncjcaaMade
import Derived.Test.YtajmbafljncjcaaLay
import Derived.Test.YtajmbafljncjcaaLook
import Derived.Deep.RegionHeld3
namespace Go.Proofs.Ytajmbafljncjcaa.Stage
open Go.RowKit Go.Proofs.YtajmbafljncjcaaW.PrintWords Go.Proofs.YtajmbafljncjcaaW.PrintLast Go.Proofs.YtajmbafljncjcaaW.PrintMore Go.Proofs.Ytajmbafljncjcaa.Mp
set_option linter.unusedVariables false
set_option linter.unusedSimpArgs false

/-- What rows laid over a table say. -/
def overSay (l : List (Nat × Nat × Nat)) (say : Nat → Nat) (p : Nat) : Nat := (sayR l p).getD (say p)

def Over1Post (w : World) (Nx B f : Nat) (l : List (Nat × Nat × Nat)) (base : List Nat) (b0 : Bool) (e : Ending) (w' : World) : Prop :=
  ∃ laid nx', e = .returned (.bool laid) ∧ (laid = false → b0 = false ∧ layB l f base = base) ∧ nx' ≤ l.length ∧ (∀ i, i < nx' → (l.getD i z3).2.1 < f) ∧ LaySt w w' Nx B nx' (layB l f base)

set_option maxRecDepth 100000 in
set_option maxHeartbeats 800000 in
theorem over1_nil (w : World) (g o cap Nx B Bt Br f : Nat) (A : Option Addr) (l : List (Nat × Nat × Nat)) (nx : Nat) (cur : List Nat)
    (hA : 0 < l.length → A = some ⟨g, o, none⟩) (hl : l.length ≤ cap) (hr : RiseN 0 l) (hrows : RowsAt w g o l) (hg : 0 < l.length → g ≠ Nx ∧ g ≠ B) (hNB : Nx ≠ B)
    (hnx : nx ≤ l.length) (hpast : ∀ i, i < nx → (l.getD i z3).2.1 < f) (hf : f + 127 ≤ 1114111) (hlen : l.length ≤ 65536)
    (hN : Blk w Nx [.int .i64 nx] 3) (hB : Blk w B (natCells .u16 cur) 91) (hcur : cur.length = 128)
    (hT : Blk w Bt [.pointer none] 23) (hR : Blk w Br [.slice A l.length cap] 22) :
    Calls Try.prog 59 #[.int .i32 (f : Int), .pointer (some ⟨B, 0, none⟩), .pointer (some ⟨Bt, 0, none⟩), .pointer (some ⟨Br, 0, none⟩), .pointer (some ⟨Nx, 0, none⟩)] w (Over1Post w Nx B f l cur false) := by
  have cT := hT.cell 0
  have cR := hR.cell 0
  simp only [List.getElem?_cons_zero] at cT cR
  have hTN : Bt ≠ Nx := blk_types hT hN (by decide)
  have hTB : Bt ≠ B := blk_types hT hB (by decide)
  have HL := Aside0.mk (lay_calls w g o cap Nx B f A l nx cur hA hl hr hrows hg hNB hnx hpast hf hlen hN hB hcur)
  go_enter Try.func59, Try.ntmps59
  go_wp2_with fail
  refine HL.out.mono ?_
  rintro e w1 ⟨laid, nx', rfl, h1, h2, h3, h4⟩
  have cT1 : w1.cell? ⟨Bt, 0, none⟩ = some (.pointer none) := ((hT.kept h4.keep (by simp [hTN, hTB])).cell 0)
  have H1 := Aside0.mk h1
  have H4 := Aside0.mk h4
  clear h1 h4
  cases laid with
  | true =>
    go_wp2
    go_ret
    exact ⟨true, nx', rfl, fun h => by (cases h), h2, h3, H4.out⟩
  | false =>
    go_wp2
    go_ret
    exact ⟨false, nx', rfl, fun _ => ⟨rfl, H1.out (by trivial)⟩, h2, h3, H4.out⟩


set_option maxRecDepth 100000 in
set_option maxHeartbeats 1600000 in
theorem over1_some (w : World) (g o cap Nx B Bt Br f : Nat) (A : Option Addr) (l : List (Nat × Nat × Nat)) (nx : Nat) (cur : List Nat) (i b gu c gp c' : Nat) (t : Tab)
    (hA : 0 < l.length → A = some ⟨g, o, none⟩) (hl : l.length ≤ cap) (hr : RiseN 0 l) (hrows : RowsAt w g o l) (hg : 0 < l.length → g ≠ Nx ∧ g ≠ B) (hNB : Nx ≠ B)
    (hnx : nx ≤ l.length) (hpast : ∀ i, i < nx → (l.getD i z3).2.1 < f) (hf : f + 127 ≤ 1114111) (hlen : l.length ≤ 65536)
    (hN : Blk w Nx [.int .i64 nx] 3) (hB : Blk w B (natCells .u16 cur) 91) (hcur : cur.length = 128)
    (hT : Blk w Bt [.pointer (some ⟨b, 0, none⟩)] 23) (hR : Blk w Br [.slice A l.length cap] 22) (ht : TabIn w b gu c gp c' t) (hi : i < 8704) (hfi : f = 128 * i) (hbB : b ≠ B) (hgB : gu ≠ B) :
    Calls Try.prog 59 #[.int .i32 (f : Int), .pointer (some ⟨B, 0, none⟩), .pointer (some ⟨Bt, 0, none⟩), .pointer (some ⟨Br, 0, none⟩), .pointer (some ⟨Nx, 0, none⟩)] w (Over1Post w Nx B f l (t.unlike.getD (t.which.getD i 0) []) true) := by
  have hx := ht.idx i hi
  have hcw := ht.hw i hi
  have hcu := ht.hu
  have hbl := ht.blk _ hx
  have hrow := ht.hub (t.which.getD i 0)
  generalize hxe : t.which.getD i 0 = x at *
  have hcell : ∀ j, j < (natCells .u16 (t.unlike.getD x [])).length → w.cell? ⟨gu, x * 128 + j, none⟩ = (natCells .u16 (t.unlike.getD x []))[j]? := fun j hj => by
    rw [natCells_len, hbl] at hj
    rw [hrow j hx hj, natCells_get _ _ _ (by omega)]
  have hra : w.rangeAt gu (x * 128) (natCells .u16 (t.unlike.getD x [])) := fun j v hv => by
    have hj := (List.getElem?_eq_some_iff.1 hv).1
    rw [hcell j hj, hv]
  have hth : w.there B 0 128 := fun j hj => by
    rw [Nat.zero_add, hB.cell j, natCells_get _ _ _ (by omega)]
    exact ⟨rfl, hB.free j⟩
  have hnl : (natCells .u16 (t.unlike.getD x [])).length = 128 := by rw [natCells_len]; exact hbl
  have ho1 := natCells_one .u16 (t.unlike.getD x [])
  have cT := hT.cell 0
  simp only [List.getElem?_cons_zero] at cT
  have hTN : Bt ≠ Nx := blk_types hT hN (by decide)
  have hTB : Bt ≠ B := blk_types hT hB (by decide)
  have hRN : Br ≠ Nx := blk_types hR hN (by decide)
  have hRB : Br ≠ B := blk_types hR hB (by decide)
  have eq1 : IntKind.i32.wrap ((f : Int) / 128) = (i : Int) := by rw [IntWalk.i32_in _ (by omega)]; omega
  have hi0 : (0 : Int) ≤ (i : Int) := Int.natCast_nonneg _
  have hi1 : (i : Int) < 8704 := by omega
  have hx0 : (0 : Int) ≤ (x : Int) := Int.natCast_nonneg _
  have hx1 : (x : Int) < (t.unlike.length : Int) := by omega
  have hun := Try.underlying91
  have hsz : (Try.prog.info? 91).map (·.size) = some (natCells .u16 (t.unlike.getD x [])).length := by rw [hnl]; exact size_block
  have HR := Aside0.mk hR
  have HT := Aside0.mk hT
  have HN := Aside0.mk hN
  have HB := Aside0.mk hB
  have HBL := Aside0.mk hbl
  have HROW := Aside0.mk hrows
  clear hR hT hN hB hbl hrows hrow hcell ht
  generalize t.unlike.getD x [] = base at *
  generalize t.unlike.length = m at *
  clear hfi hxe
  go_enter Try.func59, Try.ntmps59
  go_wp2
  go_region_held3 (fun w' => w'.cell? ⟨Bt, 0, none⟩ = some (.pointer (some ⟨b, 0, none⟩)) ∧ w'.cell? ⟨b, 8704, none⟩ = some (.slice (some ⟨gu, 0, none⟩) m c) ∧ w'.cell? ⟨b, i, none⟩ = some (.int .u16 (x : Int)) ∧ w'.rangeAt gu (x * 128) (natCells .u16 base) ∧ w'.there B 0 128) (first
      | go_keep_ranges
      | (refine ⟨(World.cell?_of_block (w := w) (a := ⟨Bt, 0, none⟩) (setCells_old B _ 0 w.drew Bt hTB)).trans cT, (World.cell?_of_block (w := w) (a := ⟨b, 8704, none⟩) (setCells_old B _ 0 w.drew b hbB)).trans hcu, (World.cell?_of_block (w := w) (a := ⟨b, i, none⟩) (setCells_old B _ 0 w.drew b hbB)).trans hcw, ?_, ?_⟩
         · exact fun j v hv => (World.cell?_of_block (w := w) (a := ⟨gu, x * 128 + j, none⟩) (setCells_old B _ 0 w.drew gu hgB)).trans (hra j v hv)
         · exact World.there_setCells ((World.there_drew w B 0 128).2 hth) _ _ _)) (fail)
  have hB2 : Blk (w.drew.setCells B 0 (natCells .u16 base)) B (natCells .u16 base) 91 := HB.out.drew.setCells_all (by rw [hnl, natCells_len]; exact hcur.symm)
  have hk2 : Keeps (fun k => k = Nx ∨ k = B) w (w.drew.setCells B 0 (natCells .u16 base)) := ((Keeps.refl _ w).drew).setCells B 0 _ (fun _ => .inr rfl)
  have hR2 := HR.out.kept hk2 (by simp [hRN, hRB])
  have hN2 : Blk (w.drew.setCells B 0 (natCells .u16 base)) Nx [.int .i64 nx] 3 := HN.out.drew.setCells_other hNB _ _
  have hrows2 : RowsAt (w.drew.setCells B 0 (natCells .u16 base)) g o l := fun j hj => by
    have hg' := hg (by omega)
    have h1 := HROW.out j hj
    exact ⟨hk2.cell (by simp [hg']) h1.1, hk2.cell (by simp [hg']) h1.2.1, hk2.cell (by simp [hg']) h1.2.2⟩
  have HK2 := Aside0.mk hk2
  have cR := hR2.cell 0
  have cT2 : (w.drew.setCells B 0 (natCells .u16 base)).cell? ⟨Bt, 0, none⟩ = some (.pointer (some ⟨b, 0, none⟩)) := (World.cell?_of_block (w := w) (a := ⟨Bt, 0, none⟩) (setCells_old B _ 0 w.drew Bt hTB)).trans cT
  simp only [List.getElem?_cons_zero] at cR
  have HL := Aside0.mk (lay_calls (w.drew.setCells B 0 (natCells .u16 base)) g o cap Nx B f A l nx base hA hl hr hrows2 hg hNB hnx hpast hf hlen hN2 hB2 HBL.out)
  have HT2 := Aside0.mk (HT.out.drew.setCells_other hTB 0 (natCells .u16 base))
  clear hrows2 hk2 hB2 hN2 hR2
  generalize w.drew.setCells B 0 (natCells .u16 base) = W2 at *
  go_wp2_with fail
  refine HL.out.mono ?_
  rintro e w1 ⟨laid, nx', rfl, h1, h2, h3, h4⟩
  have cT1 : w1.cell? ⟨Bt, 0, none⟩ = some (.pointer (some ⟨b, 0, none⟩)) := ((HT2.out.kept h4.keep (by simp [hTN, hTB])).cell 0)
  have H4 := Aside0.mk (show LaySt w w1 Nx B nx' (layB l f base) from ⟨HK2.out.trans h4.keep, h4.hN, h4.hB⟩)
  clear h1 h4
  cases laid with
  | true =>
    go_wp2
    go_ret
    exact ⟨true, nx', rfl, fun h => by (cases h), h2, h3, H4.out⟩
  | false =>
    go_wp2
    go_ret
    exact ⟨true, nx', rfl, fun h => by (cases h), h2, h3, H4.out⟩

end Go.Proofs.Ytajmbafljncjcaa.Stage
