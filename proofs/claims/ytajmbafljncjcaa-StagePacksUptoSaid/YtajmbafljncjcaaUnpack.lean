/- Unpack: the table of a packed text. -/
import Derived.Test.YtajmbafljncjcaaSaid
import Derived.Test.YtajmbafljncjcaaNilP
import Derived.Deep.QuietTactic
import Derived.Deep.RegionHeld3
import Derived.BigQuiet
namespace Go.Proofs.Ytajmbafljncjcaa.Stage
open Go.RowKit Go.Proofs.YtajmbafljncjcaaW.PrintWords Go.Proofs.YtajmbafljncjcaaW.PrintLast Go.Proofs.YtajmbafljncjcaaW.PrintMore Go.Proofs.Ytajmbafljncjcaa.Mp
set_option linter.unusedVariables false
set_option linter.unusedSimpArgs false

/-- A number of two bytes. -/
def wd (s : ByteArray) (i : Nat) : Nat := 256 * (s.data.toList.getD (2 * i) 0).toNat + (s.data.toList.getD (2 * i + 1) 0).toNat
theorem wd_le (s : ByteArray) (i : Nat) : wd s i ≤ 65535 := by
  unfold wd
  have h1 := (s.data.toList.getD (2 * i) 0).toNat_lt
  have h2 := (s.data.toList.getD (2 * i + 1) 0).toNat_lt
  omega

theorem or_u16 (a b : Nat) (ha : a < 256) (hb : b < 256) : bits .or .u16 (IntKind.u16.wrap (IntKind.u16.wrap (a : Int) * 256)) (IntKind.u16.wrap (b : Int)) = ((256 * a + b : Nat) : Int) := by
  rw [IntWalk.u16_in (a : Int) (by omega), IntWalk.u16_in ((a : Int) * 256) (by omega), IntWalk.u16_in (b : Int) (by omega), show (a : Int) * 256 = ((256 * a : Nat) : Int) by omega]
  have h1 : (BitVec.ofInt 16 ((256 * a : Nat) : Int)).toNat = 256 * a := by
    rw [BitVec.ofInt_natCast, BitVec.toNat_ofNat]; exact Nat.mod_eq_of_lt (by omega)
  have h2 : (BitVec.ofInt 16 (b : Int)).toNat = b := by
    rw [BitVec.ofInt_natCast, BitVec.toNat_ofNat]; exact Nat.mod_eq_of_lt (by omega)
  show IntKind.u16.wrap ((BitVec.ofInt 16 ((256 * a : Nat) : Int) ||| BitVec.ofInt 16 (b : Int)).toNat : Int) = _
  rw [BitVec.toNat_or, h1, h2]
  have e : 256 * a ||| b = 256 * a + b := by
    have e8 : (2 : Nat) ^ 8 = 256 := by decide
    have := Nat.shiftLeft_add_eq_or_of_lt (i := 8) (b := b) (by rw [e8]; exact hb) a
    rw [Nat.shiftLeft_eq, e8, Nat.mul_comm] at this
    exact this.symm
  rw [e, IntWalk.u16_in _ (by omega)]
theorem wd_eq (s : ByteArray) (i : Nat) (hi : 2 * i + 1 < s.size) : wd s i = 256 * (s[2 * i]'(by omega)).toNat + (s[2 * i + 1]'hi).toNat := by
  have e1 : (s.data.toList.getD (2 * i) 0) = s[2 * i]'(by omega) := by
    rw [List.getD_eq_getElem?_getD, List.getElem?_eq_getElem (by simpa using (show 2 * i < s.size by omega)), Option.getD_some]; rfl
  have e2 : (s.data.toList.getD (2 * i + 1) 0) = s[2 * i + 1]'hi := by
    rw [List.getD_eq_getElem?_getD, List.getElem?_eq_getElem (by simpa using hi), Option.getD_some]; rfl
  unfold wd
  rw [e1, e2]

set_option maxRecDepth 100000 in
set_option maxHeartbeats 800000 in
theorem word_calls (w : World) (s : ByteArray) (Bs i : Nat) (hs : s.size ≤ 9223372036854775807) (hi : 2 * i + 1 < s.size) (hB : w.cell? ⟨Bs, 0, none⟩ = some (.string s)) :
    Calls Try.prog 64 #[.int .i64 (i : Int), .pointer (some ⟨Bs, 0, none⟩)] w fun e w' => e = .returned (.int .u16 (wd s i : Nat)) ∧ ∃ n, w' = w.drewN n := by
  have h1 : 2 * (i : Int) < (s.size : Int) := by omega
  have h2 : 2 * (i : Int) + 1 < (s.size : Int) := by omega
  have h3 : (0 : Int) ≤ 2 * (i : Int) := by omega
  have h4 : (0 : Int) ≤ 2 * (i : Int) + 1 := by omega
  go_enter Try.func64, Try.ntmps64
  go_wp2
  go_quiet (fail)
  go_wp2
  go_ret
  exact ⟨by rw [wd_eq s i hi, ← or_u16 _ _ (UInt8.toNat_lt _) (UInt8.toNat_lt _)]; rfl, nq, rfl⟩

theorem word_at (w : World) (s : ByteArray) (Bs i : Nat) (a : Int) (ha : a = (i : Int)) (hs : s.size ≤ 9223372036854775807) (hi : 2 * i + 1 < s.size) (hB : w.cell? ⟨Bs, 0, none⟩ = some (.string s)) :
    Calls Try.prog 64 #[.int .i64 a, .pointer (some ⟨Bs, 0, none⟩)] w fun e w' => e = .returned (.int .u16 (wd s i : Nat)) ∧ ∃ n, w' = w.drewN n := by
  subst ha
  exact word_calls w s Bs i hs hi hB

theorem word_below (w : World) (s : ByteArray) (Bs i : Nat) (a : Int) (ha : a = (i : Int)) (hs : s.size ≤ 9223372036854775807) (hi : 2 * i + 1 < s.size) (hB : w.cell? ⟨Bs, 0, none⟩ = some (.string s)) :
    Calls Try.prog 64 #[.int .i64 a, .pointer (some ⟨Bs, 0, none⟩)] w fun e w' => e = .returned (.int .u16 (wd s i : Nat)) ∧ Below w.heap.size w w' := by
  refine (word_at w s Bs i a ha hs hi hB).mono ?_
  rintro e w' ⟨rfl, n, rfl⟩
  exact ⟨rfl, pw_below_drewN (Below.refl _ _) n⟩

/-- What a packed text says of a code point. -/
def wdSay (s : ByteArray) (p : Nat) : Nat := wd s (8705 + 128 * wd s (1 + p / 128) + p % 128)
def Up2Post (W : World) (bl : List Nat) (B : Nat) (e : Ending) (W' : World) : Prop :=
  e = .returned (.bool true) ∧ Blk W' B (natCells .u16 bl) 91 ∧ Keeps (fun k => k = B) W W'

set_option maxRecDepth 100000 in
set_option maxHeartbeats 1600000 in
theorem up2_calls (W : World) (s : ByteArray) (i k n B Bt Tb Bw Bs : Nat) (hi : i < 8704) (hs : s.size ≤ 9223372036854775807) (hsz : s.size = 17410 + 256 * n) (hk : k < n) (cur : List Nat) (bl : List Nat) (hbl : bl.length = 128) (hbv : ∀ j, j < 128 → bl.getD j 0 = wd s (8705 + 128 * k + j))
    (hB : Blk W B (natCells .u16 cur) 91) (hcur : cur.length = 128) (hT : Blk W Bt [.pointer (some ⟨Tb, 0, none⟩)] 23) (hTc : W.cell? ⟨Tb, i, none⟩ = some (.int .u16 (k : Int))) (hTB : Tb ≠ B)
    (hW : Blk W Bw [.func (.func 64) #[] #[.pointer (some ⟨Bs, 0, none⟩)]] 113) (hS : Blk W Bs [.string s] 9) :
    Calls Try.prog 65 #[.int .i32 ((128 * i : Nat) : Int), .pointer (some ⟨B, 0, none⟩), .pointer (some ⟨Bt, 0, none⟩), .pointer (some ⟨Bw, 0, none⟩)] W (Up2Post W bl B) := by
  have cT := hT.cell 0
  have cW := hW.cell 0
  simp only [List.getElem?_cons_zero] at cT cW
  have HNW := Aside0.mk (show Bw ≠ B from blk_types hW hB (by decide))
  have HNS := Aside0.mk (show Bs ≠ B from blk_types hS hB (by decide))
  have HB := Aside0.mk hB
  have HW := Aside0.mk hW
  have HS := Aside0.mk hS
  have HBV := Aside0.mk hbv
  have HBL := Aside0.mk hbl
  have HSZ := Aside0.mk hsz
  have eq1 : IntKind.i32.wrap (((128 * i : Nat) : Int) / 128) = (i : Int) := by rw [IntWalk.i32_in _ (by omega)]; omega
  have eq2 : ((128 * i : Nat) : Int) / 128 = (i : Int) := by omega
  have hi0 : (0 : Int) ≤ (i : Int) := Int.natCast_nonneg _
  have hi1 : (i : Int) < 8704 := by omega
  have hk1 : k ≤ 40000000000000000 := by omega
  have ent := call_enters (f := 64) Try.func64 (by kernel_rfl) (by kernel_rfl)
  generalize hqd : 128 * i = q at eq1 eq2
  have HQD := Aside0.mk hqd
  clear hB hT hW hS hbv hbl hsz hqd
  go_enter Try.func65, Try.ntmps65
  go_wp2
  go_loopg [19] 129 (fun kk v19 wr => ∃ j : Nat, j ≤ 128 ∧ 129 - j ≤ kk ∧ v19 = .int .i64 (j : Int) ∧ Aside0 (∃ c : List Nat, c.length = 128 ∧ (∀ t, t < j → c.getD t 0 = bl.getD t 0) ∧ Blk wr B (natCells .u16 c) 91) ∧ Aside0 (Keeps (fun k => k = B) W wr))
  case atStart => exact ⟨0, by omega, by omega, rfl, ⟨cur, hcur, fun t ht => absurd ht (Nat.not_lt_zero t), HB.out⟩, ⟨Keeps.refl _ _⟩⟩
  case round =>
    obtain ⟨j, hj, hjk, rfl, hC, hK⟩ := hrel
    by_cases hlt : j < 128
    · have hlt' : (j : Int) < 128 := by omega
      obtain ⟨c, hcl, hcx, hBc⟩ := hC.out
      have hWr := HW.out.kept hK.out HNW.out
      have hSr := HS.out.kept hK.out HNS.out
      have cWr := hWr.cell 0
      have cSr := hSr.cell 0
      simp only [List.getElem?_cons_zero] at cWr cSr
      have hcell := hBc.cell j
      rw [natCells_get _ _ _ (by omega)] at hcell
      have hfr := hBc.free j
      replace hcell := cellOr_of hcell
      have HBC := Aside0.mk hBc
      have HWL := Aside0.mk hWr.lt
      have HCL := Aside0.mk hcl
      have HCX := Aside0.mk hcx
      have HJC := Aside0.mk (show j < (natCells .u16 c).length by rw [natCells_len, hcl]; exact hlt)
      have hbv := HBV.out j hlt
      have HWD := Aside0.mk (word_below wr.drew s Bs (8705 + 128 * k + j) (IntKind.i64.wrap (8705 + 128 * (k : Int) + (j : Int))) (by rw [IntWalk.i64_in _ (by omega)]; omega) hs (by have := HSZ.out; omega) (show wr.drew.cell? ⟨Bs, 0, none⟩ = some (.string s) from cSr))
      rw [← hbv] at HWD
      generalize hx : bl.getD j 0 = x at HWD
      have HX := Aside0.mk hx
      have hxb : x ≤ 65535 := by rw [← hx, hbv]; exact wd_le _ _
      have HSB := Aside0.mk (show Bw ≠ B ∧ Bs ≠ B from ⟨HNW.out, HNS.out⟩)
      have hk1 : ∀ w2 : World, Below wr.heap.size wr w2 → w2.cell? ⟨Bw, 0, none⟩ = some (.func (.func 64) #[] #[.pointer (some ⟨Bs, 0, none⟩)]) ∧ w2.cell? ⟨B, j, none⟩ = some (cellOr w2 ⟨B, j, none⟩) ∧ w2.frozen? ⟨B, j, none⟩ = false := fun w2 hb2 => by
        have h1 : Blk w2 B (natCells .u16 c) 91 := (hb2.block B HBC.out.lt).trans HBC.out
        exact ⟨(World.cell?_of_block (a := ⟨Bw, 0, none⟩) (hb2.block Bw HWL.out)).trans cWr, cellOr_of ((h1.cell j).trans (List.getElem?_eq_getElem HJC.out)), h1.free j⟩
      have hk2 : ∀ (w2 : World) (u : Value), Below wr.heap.size wr w2 → (w2.setCell ⟨B, j, none⟩ u).cell? ⟨Bw, 0, none⟩ = some (.func (.func 64) #[] #[.pointer (some ⟨Bs, 0, none⟩)]) ∧ (w2.setCell ⟨B, j, none⟩ u).cell? ⟨B, j, none⟩ = some (cellOr (w2.setCell ⟨B, j, none⟩ u) ⟨B, j, none⟩) ∧ (w2.setCell ⟨B, j, none⟩ u).frozen? ⟨B, j, none⟩ = false := fun w2 u hb2 => by
        have h1 : Blk w2 B (natCells .u16 c) 91 := (hb2.block B HBC.out.lt).trans HBC.out
        exact ⟨(World.cell?_of_block (a := ⟨Bw, 0, none⟩) ((Below.heap_setCell w2 ⟨B, j, none⟩ u Bw HNW.out).trans (hb2.block Bw HWL.out))).trans cWr, cellOr_of (blk_set_cell h1 HJC.out u), (h1.set j u).free j⟩
      have HK1 := Aside0.mk hk1
      have HK2 := Aside0.mk hk2
      clear hcl hcx hBc hC hbv hx hWr hSr hk2 hk1 cSr
      go_wp2
      go_region_held3 (fun w' => w'.cell? ⟨Bw, 0, none⟩ = some (.func (.func 64) #[] #[.pointer (some ⟨Bs, 0, none⟩)]) ∧ w'.cell? ⟨B, j, none⟩ = some (cellOr w' ⟨B, j, none⟩) ∧ w'.frozen? ⟨B, j, none⟩ = false) (first | exact ⟨cWr, hcell, hfr⟩ | exact HK1.out _ (below_undrew hb2) | exact HK2.out _ _ (below_undrew hb2) | go_keep) (first | ((with_reducible refine HWD.out.mono ?_); rintro e w2 ⟨rfl, hb2⟩))
      have hb2' := below_undrew hb2
      have h1 : Blk w2 B (natCells .u16 c) 91 := (hb2'.block B HBC.out.lt).trans HBC.out
      have HB3 := Aside0.mk (show ∃ c' : List Nat, c'.length = 128 ∧ (∀ t, t < j + 1 → c'.getD t 0 = bl.getD t 0) ∧ Blk (w2.setCell ⟨B, j, none⟩ (.int .u16 (x : Int))) B (natCells .u16 c') 91 from
        ⟨c.set j x, by rw [List.length_set]; exact HCL.out, fun t ht => by
          rw [getD_set _ _ _ _ (by rw [HCL.out]; exact hlt)]
          split
          · rename_i e; subst e; exact HX.out.symm
          · exact HCX.out t (by omega), by rw [← natCells_set]; exact h1.set j _⟩)
      have HK3 := Aside0.mk ((hK.out.trans (Keeps.of_below hb2')).setCell ⟨B, j, none⟩ (.int .u16 (x : Int)) (fun _ => rfl))
      clear h1 hb2 hb2' hcell hfr HK1 HK2 HWD hK cWr
      generalize w2.setCell ⟨B, j, none⟩ (.int .u16 (x : Int)) = w3 at *
      go_wp2
      go_roundg (gk - 1)
      case measure => omega
      case rel => exact ⟨j + 1, by omega, by omega, by go_num, HB3, HK3⟩
    · have hlt' : ¬ (j : Int) < 128 := by omega
      obtain rfl : j = 128 := by omega
      obtain ⟨c, hcl, hcx, hBc⟩ := hC.out
      have hce : c = bl := by
        apply List.ext_getElem (by rw [hcl, HBL.out])
        intro t h1 h2
        have := hcx t (by omega)
        rwa [List.getD_eq_getElem?_getD, List.getElem?_eq_getElem h1, Option.getD_some, List.getD_eq_getElem?_getD, List.getElem?_eq_getElem h2, Option.getD_some] at this
      subst hce
      have HF := Aside0.mk (show Up2Post W c B (.returned (.bool true)) wr from ⟨rfl, hBc, hK.out⟩)
      clear hcl hcx hBc hC hK
      go_wp2
      go_ret
      exact HF.out

end Go.Proofs.Ytajmbafljncjcaa.Stage
